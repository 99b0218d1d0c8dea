/- Contracts of functions of the given program, and what they lean on: written by this session's own program, out of hand texts laid into the kit's printer. -/
import Derived.Test.YtjoledofiindcaaHp0
import Derived.Carry
import Derived.Deep.MidRow
import Derived.Deep.RegionHeld3
import Derived.Test.YtjoledofiindcaaHg1
import Derived.Test.YtjoledofiindcaaHg2
namespace Go.Proofs.Ytjoledofiindcaa.Hp
open Go.RowKit Go.Proofs.YtjoledofiindcaaW.PrintWords Go.Proofs.YtjoledofiindcaaW.PrintLast Go.Proofs.YtjoledofiindcaaW.PrintMore
attribute [local go_sem] max2_int min2_int max_two min_two max_three min_three max_four min_four   -- for this text's walks alone
set_option linter.unusedVariables false
set_option linter.unusedSimpArgs false

-- AUX RPUT
set_option maxRecDepth 100000 in
set_option maxHeartbeats 4000000 in
theorem rf_put_bad (x : Rf) (A1 : Option Addr) (n1 c1 : Nat) (A2 : Option Addr) (n2 c2 : Nat) (i : Int) (s : List Int) (hbad : i < 0 ∨ (n1 : Int) ≤ i) (w : World) :
    Calls Try.prog 34 #[.agg (rfC A1 n1 c1 A2 n2 c2 x.steps x.left x.armed x.gone), .int .i64 i, .agg (u8A s)] w fun e w1 => e = .returned (.tuple #[.agg (rfC A1 n1 c1 A2 n2 c2 x.steps x.left x.armed x.gone), .int .i64 1]) ∧ Below w.heap.size w w1 := by
  have Hc := Cx.start w
  have hu := Try.underlying50
  rcases hbad with hi | hi
  · have hb0 : decide (i < 0) = true := by simp [hi]
    clear hi
    go_enter Try.func34, Try.ntmps34
    go_wp2
    ((try simp only [Exit.inBlock, Exit.then]); (apply Cx.atPost); (focus ((repeat (with_reducible (first | exact (Hc).toS | exact At.here | apply At.there | apply CxS.drewN | apply CxS.drew | apply CxS.alloc | apply CxS.set | apply CxS.setRow))))); intro HT)
    try simp only [List.setIfInBounds_toArray, List.set_cons_zero, List.set_cons_succ] at HT
    exact bodyPost_ret (results_ct rfl _ _ (w.heap.size + 1 + 1) _ _ (0, 0) _ rfl (HT.blk (b := w.heap.size + 1 + 1) At.here) Try.underlying50 rfl rf_info) rfl ⟨by first | rfl | trivial, HT.bel⟩
  · have hb1 : ¬ i < 0 := by omega
    go_enter Try.func34, Try.ntmps34
    go_wp2
    ((try simp only [Exit.inBlock, Exit.then]); (apply Cx.atPost); (focus ((repeat (with_reducible (first | exact (Hc).toS | exact At.here | apply At.there | apply CxS.drewN | apply CxS.drew | apply CxS.alloc | apply CxS.set | apply CxS.setRow))))); intro HT)
    try simp only [List.setIfInBounds_toArray, List.set_cons_zero, List.set_cons_succ] at HT
    exact bodyPost_ret (results_ct rfl _ _ (w.heap.size + 1 + 1) _ _ (0, 0) _ rfl (HT.blk (b := w.heap.size + 1 + 1) At.here) Try.underlying50 rfl rf_info) rfl ⟨by first | rfl | trivial, HT.bel⟩
set_option maxRecDepth 100000 in
set_option maxHeartbeats 4000000 in
theorem rf_put_no (x : Rf) (A1 : Option Addr) (n1 c1 : Nat) (A2 : Option Addr) (n2 c2 : Nat) (i : Int) (s : List Int) (hi0 : ¬ i < 0) (hi1 : ¬ (n1 : Int) ≤ i) (hok : x.ok = false) (w : World) :
    Calls Try.prog 34 #[.agg (rfC A1 n1 c1 A2 n2 c2 x.steps x.left x.armed x.gone), .int .i64 i, .agg (u8A s)] w fun e w1 => e = .returned (.tuple #[.agg (rfC A1 n1 c1 A2 n2 c2 x.step.steps x.step.left x.step.armed x.step.gone), .int .i64 3]) ∧ Below w.heap.size w w1 := by
  have Hc := Cx.start w
  have hu := Try.underlying50
  have HK := Aside0.mk hok
  clear hok
  go_enter Try.func34, Try.ntmps34
  go_wp2_with fail
  ((first | apply Cx.genCall | apply Cx.genCode | apply Cx.genList); (focus ((repeat (with_reducible (first | exact (Hc).toS | exact At.here | apply At.there | apply CxS.drewN | apply CxS.drew | apply CxS.alloc | apply CxS.set | apply CxS.setRow))))); clear Hc; intro wa Ha)
  refine (rf_step x A1 n1 c1 A2 n2 c2 _).mono ?_
  rintro e wb ⟨rfl, hb⟩
  have Hb := Ha.below hb
  clear Ha hb
  rw [HK.out]
  have F := (Hb).facts; simp only [factsOf, Asr.facts, blkFacts, cellsAre, List.toList_toArray, forall_const, Nat.zero_add, Nat.reduceAdd, and_true, true_and] at F
  go_wp2
  ((try simp only [Exit.inBlock, Exit.then]); (apply Cx.atPost); (focus ((repeat (with_reducible (first | exact (Hb).toS | exact At.here | apply At.there | apply CxS.drewN | apply CxS.drew | apply CxS.alloc | apply CxS.set | apply CxS.setRow))))); intro HT)
  try simp only [List.setIfInBounds_toArray, List.set_cons_zero, List.set_cons_succ] at HT
  exact bodyPost_ret (results_ct rfl _ _ (w.heap.size + 1 + 1) _ _ (0, 0) _ rfl (HT.blk (b := w.heap.size + 1 + 1) At.here) Try.underlying50 rfl rf_info) rfl ⟨by first | rfl | trivial, HT.bel⟩
set_option maxRecDepth 100000 in
set_option maxHeartbeats 8000000 in
theorem rf_put_yes {B : Nat} {w0 w : World} {m : List Asr} (x : Rf) (A1 : Option Addr) (n1 c1 : Nat) (A2 : Option Addr) (n2 c2 : Nat) (i : Int) (s : List Int) (hi0 : ¬ i < 0) (hi1 : ¬ (n1 : Int) ≤ i) (hok : x.ok = true) (hs : s.length = 128) (H : Cx B w0 w m) (h2 : rowAt 129 wrC w A2 n2 c2 x.waiting) (hnil : n2 = 0 → A2 = none ∧ c2 = 0) (hl2 : n2 ≤ 100000) :
    Calls Try.prog 34 #[.agg (rfC A1 n1 c1 A2 n2 c2 x.steps x.left x.armed x.gone), .int .i64 i, .agg (u8A s)] w fun e w1 => ∃ g n c, n = (x.waiting ++ [(i, s)]).length ∧ e = .returned (.tuple #[.agg (rfC A1 n1 c1 (some ⟨g, 0, none⟩) n c x.step.steps x.step.left x.step.armed x.step.gone), .int .i64 0]) ∧ Cx B w0 w1 (.own rwaitR (.slice (some ⟨g, 0, none⟩) n c) (x.waiting ++ [(i, s)]) :: m) := by
  have Hc := Cx.start w
  have hu := Try.underlying50
  have HK := Aside0.mk hok
  have HS := Aside0.mk hs
  have HH := Aside0.mk H
  have HR2 := Aside0.mk h2
  have HNIL := Aside0.mk hnil
  have HL := Aside0.mk hl2
  clear hok hs H h2 hnil hl2
  go_enter Try.func34, Try.ntmps34
  go_wp2_with fail
  ((first | apply Cx.genCall | apply Cx.genCode | apply Cx.genList); (focus ((repeat (with_reducible (first | exact (Hc).toS | exact At.here | apply At.there | apply CxS.drewN | apply CxS.drew | apply CxS.alloc | apply CxS.set | apply CxS.setRow))))); clear Hc; intro wa Ha)
  refine (rf_step x A1 n1 c1 A2 n2 c2 _).mono ?_
  rintro e wb ⟨rfl, hb⟩
  have Hb := Ha.below hb
  clear Ha hb
  rw [HK.out]
  obtain ⟨y, hy⟩ : ∃ y, y = x.step := ⟨_, rfl⟩
  rw [← hy]
  have HY := Aside0.mk hy
  clear hy
  have F := (Hb).facts; simp only [factsOf, Asr.facts, blkFacts, cellsAre, List.toList_toArray, forall_const, Nat.zero_add, Nat.reduceAdd, and_true, true_and] at F
  go_wp2_with fail
  clear F
  ((first | apply Cx.genCall | apply Cx.genCode | apply Cx.genList); (focus ((repeat (with_reducible (first | exact (Hb).toS | exact At.here | apply At.there | apply CxS.drewN | apply CxS.drew | apply CxS.alloc | apply CxS.set | apply CxS.setRow))))); clear Hb; intro wc Hd)
  try simp only [List.setIfInBounds_toArray, List.set_cons_zero, List.set_cons_succ] at Hd
  have Hy := (Hd.toS.drew).cx
  clear Hd
  refine wp_region_held_drew (S := fun W => W.heap[w.heap.size + 1]? = some (.cells (u8A s) 34 (0, 0))) (by kernel_rfl) (Hy.blk (b := w.heap.size + 1) (o := .cells (u8A s) 34 (0, 0)) (by repeat (with_reducible (first | exact At.here | apply At.there)))) (fun hH_ => ?_)
  (refine wpAnyH_take (i := 1) (v := ?_) rfl (by kernel_rfl) (by kernel_rfl) (by kernel_rfl) (fun _ _ _ h => h) (Or.inl ⟨by rfl, ?_⟩) hH_ ?_; rotate_left; (focus (intro w_ hSw_; go_simp; try (with_reducible rfl))); simp only [List.getElem_toArray, List.getElem_cons_succ, List.getElem_cons_zero, Act.put, List.setIfInBounds_toArray, List.set_cons_zero, List.set_cons_succ])
  (refine wpAnyH_take (i := 4) (v := ?_) rfl (by kernel_rfl) (by kernel_rfl) (by kernel_rfl) (fun _ _ _ h => h) (Or.inl ⟨by rfl, ?_⟩) hH_ ?_; rotate_left; (focus (intro w_ hSw_; go_simp; try (with_reducible rfl))); simp only [List.getElem_toArray, List.getElem_cons_succ, List.getElem_cons_zero, Act.put, List.setIfInBounds_toArray, List.set_cons_zero, List.set_cons_succ])
  (refine wpAnyH_take (i := 5) rfl (by kernel_rfl) (by kernel_rfl) (by kernel_rfl) (fun _ _ _ h => h) (yieldsIf_load_mid (by rfl) 34 (.tmp 5) rfl (w.heap.size + 1) (0) rfl (secE s) _ (fun W h => rangeAt_u8A h) Try.underlying34 rfl (by rw [List.length_map, HS.out]; exact dk_info)) hH_ ?_; simp only [List.getElem_toArray, List.getElem_cons_succ, List.getElem_cons_zero, Act.put, List.setIfInBounds_toArray, List.set_cons_zero, List.set_cons_succ])
  (refine wpAnyH_take (i := 6) (v := .agg (wrC (i, s)).toArray) rfl (by kernel_rfl) (by kernel_rfl) (by kernel_rfl) (fun _ _ _ h => h) (Or.inl ⟨by rfl, fun W _ => exec_build 87 #[(0, .tmp 31), (1, .tmp 32)] rfl #[(0, .int .i64 i), (1, .agg (u8A s))] rfl (rf_build i s HS.out W)⟩) hH_ ?_; simp only [List.getElem_toArray, List.getElem_cons_succ, List.getElem_cons_zero, Act.put, List.setIfInBounds_toArray, List.set_cons_zero, List.set_cons_succ])
  refine wpAnyH_ready (rs := [0, 2, 7]) (by kernel_rfl) (by simp) ?_
  refine AllReadyH.cons rfl (fun K hK => ?_) (AllReadyH.cons rfl (fun K hK => ?_) (AllReadyH.cons rfl (fun K hK => ?_) AllReadyH.nil))
  · refine Cx.stepNil (e := 87) (sz := 129) (enc := wrC) Hy rfl 48 rfl rf_slice0 ?_
    intro g0 W0 Hy
    (refine hK.out _ _ (Hy.blk (b := w.heap.size + 1) (o := .cells (u8A s) 34 (0, 0)) (by repeat (with_reducible (first | exact At.here | apply At.there)))) (fun hH2_ => ?_); clear hK K hH_; have hH_ := hH2_; clear hH2_; simp only [List.getElem_toArray, List.getElem_cons_succ, List.getElem_cons_zero, Act.put, List.setIfInBounds_toArray, List.set_cons_zero, List.set_cons_succ])
    refine wpAnyH_ready (rs := [2, 7]) (by kernel_rfl) (by simp) ?_
    refine AllReadyH.cons rfl (fun K hK => ?_) (AllReadyH.cons rfl (fun K hK => ?_) AllReadyH.nil)
    · refine step_exec rfl (exec_load_cell 48 (.tmp 28) rfl w.heap.size 1 rfl (.slice A2 n2 c2) (run_isAgg_plain Try.underlying48 rfl _) ((cell_of (Hy.blk (b := w.heap.size) (o := .cells (rfC A1 n1 c1 A2 n2 c2 y.steps y.left y.armed y.gone) 50 (0, 0)) (by repeat (with_reducible (first | exact At.here | apply At.there)))) 1).trans rfl)) ?_
      (refine hK.out _ _ (Hy.blk (b := w.heap.size + 1) (o := .cells (u8A s) 34 (0, 0)) (by repeat (with_reducible (first | exact At.here | apply At.there)))) (fun hH2_ => ?_); clear hK K hH_; have hH_ := hH2_; clear hH2_; simp only [List.getElem_toArray, List.getElem_cons_succ, List.getElem_cons_zero, Act.put, List.setIfInBounds_toArray, List.set_cons_zero, List.set_cons_succ])
      refine wpAnyH_ready (rs := [3, 7]) (by kernel_rfl) (by simp) ?_
      refine AllReadyH.cons rfl (fun K hK => ?_) (AllReadyH.cons rfl (fun K hK => ?_) AllReadyH.nil)
      · refine Cx.stepApp [] x.waiting Hy (by repeat (with_reducible (first | exact At.here | apply At.there))) rfl (.tmp 27) (.tmp 29) 48 rfl Try.underlying48 wr_info2 (by simp [Value.cells, wrC, sz0]) (by decide) (by decide) rfl rfl (HR2.out.below Hy.bel) HNIL.out (fun y _ => wrC_one y) (by have := HR2.out.1; have := HL.out; simp; omega) ?_
        intro g3 n3 c3 W3 hn3 Hy
        have HN3 := Aside0.mk hn3
        clear hn3
        (refine hK.out _ _ (Hy.blk (b := w.heap.size + 1) (o := .cells (u8A s) 34 (0, 0)) (by repeat (with_reducible (first | exact At.here | apply At.there)))) (fun hH2_ => ?_); clear hK K hH_; have hH_ := hH2_; clear hH2_; simp only [List.getElem_toArray, List.getElem_cons_succ, List.getElem_cons_zero, Act.put, List.setIfInBounds_toArray, List.set_cons_zero, List.set_cons_succ])
        refine wpAnyH_ready (rs := [7]) (by kernel_rfl) (by simp) ?_
        refine AllReadyH.cons rfl (fun K hK => ?_) AllReadyH.nil
        refine Cx.stepOne (e := 87) (v := .agg (wrC (i, s)).toArray) Hy rfl 48 (.tmp 33) rfl rfl (rf_slice1 (i, s) HS.out) ?_
        intro g7 W7 Hy
        (refine hK.out _ _ (Hy.blk (b := w.heap.size + 1) (o := .cells (u8A s) 34 (0, 0)) (by repeat (with_reducible (first | exact At.here | apply At.there)))) (fun hH2_ => ?_); clear hK K hH_; have hH_ := hH2_; clear hH2_; simp only [List.getElem_toArray, List.getElem_cons_succ, List.getElem_cons_zero, Act.put, List.setIfInBounds_toArray, List.set_cons_zero, List.set_cons_succ])
        refine wpAnyH_ready (rs := [8]) (by kernel_rfl) (by simp) ?_
        refine AllReadyH.cons rfl (fun K hK => ?_) AllReadyH.nil
        refine Cx.stepApp ([] ++ x.waiting) [(i, s)] Hy (by repeat (with_reducible (first | exact At.here | apply At.there))) rfl (.tmp 30) (.tmp 34) 48 rfl Try.underlying48 wr_info2 (by simp [Value.cells, wrC, sz0]) (by decide) (by decide) rfl rfl (rowAt_one (Hy.blk (b := g7) (o := .cells (wrC (i, s)).toArray 87 (0, 0)) (by repeat (with_reducible (first | exact At.here | apply At.there)))) (wrC_len _ HS.out)) (fun h => by cases h) (fun y _ => wrC_one y) (by have := HR2.out.1; have := HL.out; simp; omega) ?_
        intro g8 n8 c8 W8 hn8 Hy
        have HN8 := Aside0.mk hn8
        clear hn8
        rw [List.nil_append] at Hy HN8
        (refine hK.out _ _ (Hy.blk (b := w.heap.size + 1) (o := .cells (u8A s) 34 (0, 0)) (by repeat (with_reducible (first | exact At.here | apply At.there)))) (fun hH2_ => ?_); clear hK K hH_; have hH_ := hH2_; clear hH2_; simp only [List.getElem_toArray, List.getElem_cons_succ, List.getElem_cons_zero, Act.put, List.setIfInBounds_toArray, List.set_cons_zero, List.set_cons_succ])
        (refine wpAnyH_take (i := 9) (v := ?_) rfl (by kernel_rfl) (by kernel_rfl) (by kernel_rfl) (fun _ _ _ h => h) (Or.inl ⟨by rfl, ?_⟩) hH_ ?_; rotate_left; (focus (intro w_ hSw_; go_simp; try (with_reducible rfl))); simp only [List.getElem_toArray, List.getElem_cons_succ, List.getElem_cons_zero, Act.put, List.setIfInBounds_toArray, List.set_cons_zero, List.set_cons_succ])
        (refine wpAnyH_ready (rs := [10]) (by kernel_rfl) (by simp) ?_; refine AllReadyH.cons rfl (fun K hK => ?_) AllReadyH.nil; have F := (Hy).facts; simp only [factsOf, Asr.facts, blkFacts, cellsAre, List.toList_toArray, forall_const, Nat.zero_add, Nat.reduceAdd, and_true, true_and] at F; go_simp; refine Cx.genP (C := K _) (by (repeat (with_reducible (first | exact (Hy).toS | exact At.here | apply At.there | apply CxS.drewN | apply CxS.drew | apply CxS.alloc | apply CxS.set | apply CxS.setRow)))) (fun Wn Hn => ?_); clear F Hy; have Hy := Hn; clear Hn; (try simp only [List.setIfInBounds_toArray, List.set_cons_zero, List.set_cons_succ] at Hy); refine hK.out _ _ (Hy.blk (b := w.heap.size + 1) (o := .cells (u8A s) 34 (0, 0)) (by repeat (with_reducible (first | exact At.here | apply At.there)))) (fun hH2_ => ?_); clear hK K hH_; have hH_ := hH2_; clear hH2_; try simp only [List.getElem_toArray, List.getElem_cons_succ, List.getElem_cons_zero, Act.put, List.setIfInBounds_toArray, List.set_cons_zero, List.set_cons_succ])
        refine wpAnyH_done (by kernel_rfl) ?_ _
        clear hH_; have F := (Hy).facts; simp only [factsOf, Asr.facts, blkFacts, cellsAre, List.toList_toArray, forall_const, Nat.zero_add, Nat.reduceAdd, and_true, true_and] at F; go_wp2; ((try simp only [Exit.inBlock, Exit.then]); (apply Cx.atPost); (focus ((repeat (with_reducible (first | exact (Hy).toS | exact At.here | apply At.there | apply CxS.drewN | apply CxS.drew | apply CxS.alloc | apply CxS.set | apply CxS.setRow))))); intro HT); try simp only [List.setIfInBounds_toArray, List.set_cons_zero, List.set_cons_succ] at HT; exact bodyPost_ret (results_ct rfl _ _ (w.heap.size + 1 + 1) _ _ (0, 0) _ rfl (HT.blk (b := w.heap.size + 1 + 1) At.here) Try.underlying50 rfl rf_info) rfl ⟨_, _, _, HN8.out, by rw [← HY.out]; rfl, HH.out.join (HT.head (a := .own rwaitR _ (x.waiting ++ [(i, s)])) (by repeat (with_reducible (first | exact At.here | apply At.there))))⟩
      · refine Cx.stepOne (e := 87) (v := .agg (wrC (i, s)).toArray) Hy rfl 48 (.tmp 33) rfl rfl (rf_slice1 (i, s) HS.out) ?_
        intro g7 W7 Hy
        (refine hK.out _ _ (Hy.blk (b := w.heap.size + 1) (o := .cells (u8A s) 34 (0, 0)) (by repeat (with_reducible (first | exact At.here | apply At.there)))) (fun hH2_ => ?_); clear hK K hH_; have hH_ := hH2_; clear hH2_; simp only [List.getElem_toArray, List.getElem_cons_succ, List.getElem_cons_zero, Act.put, List.setIfInBounds_toArray, List.set_cons_zero, List.set_cons_succ])
        refine wpAnyH_ready (rs := [3]) (by kernel_rfl) (by simp) ?_
        refine AllReadyH.cons rfl (fun K hK => ?_) AllReadyH.nil
        refine Cx.stepApp [] x.waiting Hy (by repeat (with_reducible (first | exact At.here | apply At.there))) rfl (.tmp 27) (.tmp 29) 48 rfl Try.underlying48 wr_info2 (by simp [Value.cells, wrC, sz0]) (by decide) (by decide) rfl rfl (HR2.out.below Hy.bel) HNIL.out (fun y _ => wrC_one y) (by have := HR2.out.1; have := HL.out; simp; omega) ?_
        intro g3 n3 c3 W3 hn3 Hy
        have HN3 := Aside0.mk hn3
        clear hn3
        (refine hK.out _ _ (Hy.blk (b := w.heap.size + 1) (o := .cells (u8A s) 34 (0, 0)) (by repeat (with_reducible (first | exact At.here | apply At.there)))) (fun hH2_ => ?_); clear hK K hH_; have hH_ := hH2_; clear hH2_; simp only [List.getElem_toArray, List.getElem_cons_succ, List.getElem_cons_zero, Act.put, List.setIfInBounds_toArray, List.set_cons_zero, List.set_cons_succ])
        refine wpAnyH_ready (rs := [8]) (by kernel_rfl) (by simp) ?_
        refine AllReadyH.cons rfl (fun K hK => ?_) AllReadyH.nil
        refine Cx.stepApp ([] ++ x.waiting) [(i, s)] Hy (by repeat (with_reducible (first | exact At.here | apply At.there))) rfl (.tmp 30) (.tmp 34) 48 rfl Try.underlying48 wr_info2 (by simp [Value.cells, wrC, sz0]) (by decide) (by decide) rfl rfl (rowAt_one (Hy.blk (b := g7) (o := .cells (wrC (i, s)).toArray 87 (0, 0)) (by repeat (with_reducible (first | exact At.here | apply At.there)))) (wrC_len _ HS.out)) (fun h => by cases h) (fun y _ => wrC_one y) (by have := HR2.out.1; have := HL.out; simp; omega) ?_
        intro g8 n8 c8 W8 hn8 Hy
        have HN8 := Aside0.mk hn8
        clear hn8
        rw [List.nil_append] at Hy HN8
        (refine hK.out _ _ (Hy.blk (b := w.heap.size + 1) (o := .cells (u8A s) 34 (0, 0)) (by repeat (with_reducible (first | exact At.here | apply At.there)))) (fun hH2_ => ?_); clear hK K hH_; have hH_ := hH2_; clear hH2_; simp only [List.getElem_toArray, List.getElem_cons_succ, List.getElem_cons_zero, Act.put, List.setIfInBounds_toArray, List.set_cons_zero, List.set_cons_succ])
        (refine wpAnyH_take (i := 9) (v := ?_) rfl (by kernel_rfl) (by kernel_rfl) (by kernel_rfl) (fun _ _ _ h => h) (Or.inl ⟨by rfl, ?_⟩) hH_ ?_; rotate_left; (focus (intro w_ hSw_; go_simp; try (with_reducible rfl))); simp only [List.getElem_toArray, List.getElem_cons_succ, List.getElem_cons_zero, Act.put, List.setIfInBounds_toArray, List.set_cons_zero, List.set_cons_succ])
        (refine wpAnyH_ready (rs := [10]) (by kernel_rfl) (by simp) ?_; refine AllReadyH.cons rfl (fun K hK => ?_) AllReadyH.nil; have F := (Hy).facts; simp only [factsOf, Asr.facts, blkFacts, cellsAre, List.toList_toArray, forall_const, Nat.zero_add, Nat.reduceAdd, and_true, true_and] at F; go_simp; refine Cx.genP (C := K _) (by (repeat (with_reducible (first | exact (Hy).toS | exact At.here | apply At.there | apply CxS.drewN | apply CxS.drew | apply CxS.alloc | apply CxS.set | apply CxS.setRow)))) (fun Wn Hn => ?_); clear F Hy; have Hy := Hn; clear Hn; (try simp only [List.setIfInBounds_toArray, List.set_cons_zero, List.set_cons_succ] at Hy); refine hK.out _ _ (Hy.blk (b := w.heap.size + 1) (o := .cells (u8A s) 34 (0, 0)) (by repeat (with_reducible (first | exact At.here | apply At.there)))) (fun hH2_ => ?_); clear hK K hH_; have hH_ := hH2_; clear hH2_; try simp only [List.getElem_toArray, List.getElem_cons_succ, List.getElem_cons_zero, Act.put, List.setIfInBounds_toArray, List.set_cons_zero, List.set_cons_succ])
        refine wpAnyH_done (by kernel_rfl) ?_ _
        clear hH_; have F := (Hy).facts; simp only [factsOf, Asr.facts, blkFacts, cellsAre, List.toList_toArray, forall_const, Nat.zero_add, Nat.reduceAdd, and_true, true_and] at F; go_wp2; ((try simp only [Exit.inBlock, Exit.then]); (apply Cx.atPost); (focus ((repeat (with_reducible (first | exact (Hy).toS | exact At.here | apply At.there | apply CxS.drewN | apply CxS.drew | apply CxS.alloc | apply CxS.set | apply CxS.setRow))))); intro HT); try simp only [List.setIfInBounds_toArray, List.set_cons_zero, List.set_cons_succ] at HT; exact bodyPost_ret (results_ct rfl _ _ (w.heap.size + 1 + 1) _ _ (0, 0) _ rfl (HT.blk (b := w.heap.size + 1 + 1) At.here) Try.underlying50 rfl rf_info) rfl ⟨_, _, _, HN8.out, by rw [← HY.out]; rfl, HH.out.join (HT.head (a := .own rwaitR _ (x.waiting ++ [(i, s)])) (by repeat (with_reducible (first | exact At.here | apply At.there))))⟩
    · refine Cx.stepOne (e := 87) (v := .agg (wrC (i, s)).toArray) Hy rfl 48 (.tmp 33) rfl rfl (rf_slice1 (i, s) HS.out) ?_
      intro g7 W7 Hy
      (refine hK.out _ _ (Hy.blk (b := w.heap.size + 1) (o := .cells (u8A s) 34 (0, 0)) (by repeat (with_reducible (first | exact At.here | apply At.there)))) (fun hH2_ => ?_); clear hK K hH_; have hH_ := hH2_; clear hH2_; simp only [List.getElem_toArray, List.getElem_cons_succ, List.getElem_cons_zero, Act.put, List.setIfInBounds_toArray, List.set_cons_zero, List.set_cons_succ])
      refine wpAnyH_ready (rs := [2]) (by kernel_rfl) (by simp) ?_
      refine AllReadyH.cons rfl (fun K hK => ?_) AllReadyH.nil
      refine step_exec rfl (exec_load_cell 48 (.tmp 28) rfl w.heap.size 1 rfl (.slice A2 n2 c2) (run_isAgg_plain Try.underlying48 rfl _) ((cell_of (Hy.blk (b := w.heap.size) (o := .cells (rfC A1 n1 c1 A2 n2 c2 y.steps y.left y.armed y.gone) 50 (0, 0)) (by repeat (with_reducible (first | exact At.here | apply At.there)))) 1).trans rfl)) ?_
      (refine hK.out _ _ (Hy.blk (b := w.heap.size + 1) (o := .cells (u8A s) 34 (0, 0)) (by repeat (with_reducible (first | exact At.here | apply At.there)))) (fun hH2_ => ?_); clear hK K hH_; have hH_ := hH2_; clear hH2_; simp only [List.getElem_toArray, List.getElem_cons_succ, List.getElem_cons_zero, Act.put, List.setIfInBounds_toArray, List.set_cons_zero, List.set_cons_succ])
      refine wpAnyH_ready (rs := [3]) (by kernel_rfl) (by simp) ?_
      refine AllReadyH.cons rfl (fun K hK => ?_) AllReadyH.nil
      refine Cx.stepApp [] x.waiting Hy (by repeat (with_reducible (first | exact At.here | apply At.there))) rfl (.tmp 27) (.tmp 29) 48 rfl Try.underlying48 wr_info2 (by simp [Value.cells, wrC, sz0]) (by decide) (by decide) rfl rfl (HR2.out.below Hy.bel) HNIL.out (fun y _ => wrC_one y) (by have := HR2.out.1; have := HL.out; simp; omega) ?_
      intro g3 n3 c3 W3 hn3 Hy
      have HN3 := Aside0.mk hn3
      clear hn3
      (refine hK.out _ _ (Hy.blk (b := w.heap.size + 1) (o := .cells (u8A s) 34 (0, 0)) (by repeat (with_reducible (first | exact At.here | apply At.there)))) (fun hH2_ => ?_); clear hK K hH_; have hH_ := hH2_; clear hH2_; simp only [List.getElem_toArray, List.getElem_cons_succ, List.getElem_cons_zero, Act.put, List.setIfInBounds_toArray, List.set_cons_zero, List.set_cons_succ])
      refine wpAnyH_ready (rs := [8]) (by kernel_rfl) (by simp) ?_
      refine AllReadyH.cons rfl (fun K hK => ?_) AllReadyH.nil
      refine Cx.stepApp ([] ++ x.waiting) [(i, s)] Hy (by repeat (with_reducible (first | exact At.here | apply At.there))) rfl (.tmp 30) (.tmp 34) 48 rfl Try.underlying48 wr_info2 (by simp [Value.cells, wrC, sz0]) (by decide) (by decide) rfl rfl (rowAt_one (Hy.blk (b := g7) (o := .cells (wrC (i, s)).toArray 87 (0, 0)) (by repeat (with_reducible (first | exact At.here | apply At.there)))) (wrC_len _ HS.out)) (fun h => by cases h) (fun y _ => wrC_one y) (by have := HR2.out.1; have := HL.out; simp; omega) ?_
      intro g8 n8 c8 W8 hn8 Hy
      have HN8 := Aside0.mk hn8
      clear hn8
      rw [List.nil_append] at Hy HN8
      (refine hK.out _ _ (Hy.blk (b := w.heap.size + 1) (o := .cells (u8A s) 34 (0, 0)) (by repeat (with_reducible (first | exact At.here | apply At.there)))) (fun hH2_ => ?_); clear hK K hH_; have hH_ := hH2_; clear hH2_; simp only [List.getElem_toArray, List.getElem_cons_succ, List.getElem_cons_zero, Act.put, List.setIfInBounds_toArray, List.set_cons_zero, List.set_cons_succ])
      (refine wpAnyH_take (i := 9) (v := ?_) rfl (by kernel_rfl) (by kernel_rfl) (by kernel_rfl) (fun _ _ _ h => h) (Or.inl ⟨by rfl, ?_⟩) hH_ ?_; rotate_left; (focus (intro w_ hSw_; go_simp; try (with_reducible rfl))); simp only [List.getElem_toArray, List.getElem_cons_succ, List.getElem_cons_zero, Act.put, List.setIfInBounds_toArray, List.set_cons_zero, List.set_cons_succ])
      (refine wpAnyH_ready (rs := [10]) (by kernel_rfl) (by simp) ?_; refine AllReadyH.cons rfl (fun K hK => ?_) AllReadyH.nil; have F := (Hy).facts; simp only [factsOf, Asr.facts, blkFacts, cellsAre, List.toList_toArray, forall_const, Nat.zero_add, Nat.reduceAdd, and_true, true_and] at F; go_simp; refine Cx.genP (C := K _) (by (repeat (with_reducible (first | exact (Hy).toS | exact At.here | apply At.there | apply CxS.drewN | apply CxS.drew | apply CxS.alloc | apply CxS.set | apply CxS.setRow)))) (fun Wn Hn => ?_); clear F Hy; have Hy := Hn; clear Hn; (try simp only [List.setIfInBounds_toArray, List.set_cons_zero, List.set_cons_succ] at Hy); refine hK.out _ _ (Hy.blk (b := w.heap.size + 1) (o := .cells (u8A s) 34 (0, 0)) (by repeat (with_reducible (first | exact At.here | apply At.there)))) (fun hH2_ => ?_); clear hK K hH_; have hH_ := hH2_; clear hH2_; try simp only [List.getElem_toArray, List.getElem_cons_succ, List.getElem_cons_zero, Act.put, List.setIfInBounds_toArray, List.set_cons_zero, List.set_cons_succ])
      refine wpAnyH_done (by kernel_rfl) ?_ _
      clear hH_; have F := (Hy).facts; simp only [factsOf, Asr.facts, blkFacts, cellsAre, List.toList_toArray, forall_const, Nat.zero_add, Nat.reduceAdd, and_true, true_and] at F; go_wp2; ((try simp only [Exit.inBlock, Exit.then]); (apply Cx.atPost); (focus ((repeat (with_reducible (first | exact (Hy).toS | exact At.here | apply At.there | apply CxS.drewN | apply CxS.drew | apply CxS.alloc | apply CxS.set | apply CxS.setRow))))); intro HT); try simp only [List.setIfInBounds_toArray, List.set_cons_zero, List.set_cons_succ] at HT; exact bodyPost_ret (results_ct rfl _ _ (w.heap.size + 1 + 1) _ _ (0, 0) _ rfl (HT.blk (b := w.heap.size + 1 + 1) At.here) Try.underlying50 rfl rf_info) rfl ⟨_, _, _, HN8.out, by rw [← HY.out]; rfl, HH.out.join (HT.head (a := .own rwaitR _ (x.waiting ++ [(i, s)])) (by repeat (with_reducible (first | exact At.here | apply At.there))))⟩
  · refine step_exec rfl (exec_load_cell 48 (.tmp 28) rfl w.heap.size 1 rfl (.slice A2 n2 c2) (run_isAgg_plain Try.underlying48 rfl _) ((cell_of (Hy.blk (b := w.heap.size) (o := .cells (rfC A1 n1 c1 A2 n2 c2 y.steps y.left y.armed y.gone) 50 (0, 0)) (by repeat (with_reducible (first | exact At.here | apply At.there)))) 1).trans rfl)) ?_
    (refine hK.out _ _ (Hy.blk (b := w.heap.size + 1) (o := .cells (u8A s) 34 (0, 0)) (by repeat (with_reducible (first | exact At.here | apply At.there)))) (fun hH2_ => ?_); clear hK K hH_; have hH_ := hH2_; clear hH2_; simp only [List.getElem_toArray, List.getElem_cons_succ, List.getElem_cons_zero, Act.put, List.setIfInBounds_toArray, List.set_cons_zero, List.set_cons_succ])
    refine wpAnyH_ready (rs := [0, 7]) (by kernel_rfl) (by simp) ?_
    refine AllReadyH.cons rfl (fun K hK => ?_) (AllReadyH.cons rfl (fun K hK => ?_) AllReadyH.nil)
    · refine Cx.stepNil (e := 87) (sz := 129) (enc := wrC) Hy rfl 48 rfl rf_slice0 ?_
      intro g0 W0 Hy
      (refine hK.out _ _ (Hy.blk (b := w.heap.size + 1) (o := .cells (u8A s) 34 (0, 0)) (by repeat (with_reducible (first | exact At.here | apply At.there)))) (fun hH2_ => ?_); clear hK K hH_; have hH_ := hH2_; clear hH2_; simp only [List.getElem_toArray, List.getElem_cons_succ, List.getElem_cons_zero, Act.put, List.setIfInBounds_toArray, List.set_cons_zero, List.set_cons_succ])
      refine wpAnyH_ready (rs := [3, 7]) (by kernel_rfl) (by simp) ?_
      refine AllReadyH.cons rfl (fun K hK => ?_) (AllReadyH.cons rfl (fun K hK => ?_) AllReadyH.nil)
      · refine Cx.stepApp [] x.waiting Hy (by repeat (with_reducible (first | exact At.here | apply At.there))) rfl (.tmp 27) (.tmp 29) 48 rfl Try.underlying48 wr_info2 (by simp [Value.cells, wrC, sz0]) (by decide) (by decide) rfl rfl (HR2.out.below Hy.bel) HNIL.out (fun y _ => wrC_one y) (by have := HR2.out.1; have := HL.out; simp; omega) ?_
        intro g3 n3 c3 W3 hn3 Hy
        have HN3 := Aside0.mk hn3
        clear hn3
        (refine hK.out _ _ (Hy.blk (b := w.heap.size + 1) (o := .cells (u8A s) 34 (0, 0)) (by repeat (with_reducible (first | exact At.here | apply At.there)))) (fun hH2_ => ?_); clear hK K hH_; have hH_ := hH2_; clear hH2_; simp only [List.getElem_toArray, List.getElem_cons_succ, List.getElem_cons_zero, Act.put, List.setIfInBounds_toArray, List.set_cons_zero, List.set_cons_succ])
        refine wpAnyH_ready (rs := [7]) (by kernel_rfl) (by simp) ?_
        refine AllReadyH.cons rfl (fun K hK => ?_) AllReadyH.nil
        refine Cx.stepOne (e := 87) (v := .agg (wrC (i, s)).toArray) Hy rfl 48 (.tmp 33) rfl rfl (rf_slice1 (i, s) HS.out) ?_
        intro g7 W7 Hy
        (refine hK.out _ _ (Hy.blk (b := w.heap.size + 1) (o := .cells (u8A s) 34 (0, 0)) (by repeat (with_reducible (first | exact At.here | apply At.there)))) (fun hH2_ => ?_); clear hK K hH_; have hH_ := hH2_; clear hH2_; simp only [List.getElem_toArray, List.getElem_cons_succ, List.getElem_cons_zero, Act.put, List.setIfInBounds_toArray, List.set_cons_zero, List.set_cons_succ])
        refine wpAnyH_ready (rs := [8]) (by kernel_rfl) (by simp) ?_
        refine AllReadyH.cons rfl (fun K hK => ?_) AllReadyH.nil
        refine Cx.stepApp ([] ++ x.waiting) [(i, s)] Hy (by repeat (with_reducible (first | exact At.here | apply At.there))) rfl (.tmp 30) (.tmp 34) 48 rfl Try.underlying48 wr_info2 (by simp [Value.cells, wrC, sz0]) (by decide) (by decide) rfl rfl (rowAt_one (Hy.blk (b := g7) (o := .cells (wrC (i, s)).toArray 87 (0, 0)) (by repeat (with_reducible (first | exact At.here | apply At.there)))) (wrC_len _ HS.out)) (fun h => by cases h) (fun y _ => wrC_one y) (by have := HR2.out.1; have := HL.out; simp; omega) ?_
        intro g8 n8 c8 W8 hn8 Hy
        have HN8 := Aside0.mk hn8
        clear hn8
        rw [List.nil_append] at Hy HN8
        (refine hK.out _ _ (Hy.blk (b := w.heap.size + 1) (o := .cells (u8A s) 34 (0, 0)) (by repeat (with_reducible (first | exact At.here | apply At.there)))) (fun hH2_ => ?_); clear hK K hH_; have hH_ := hH2_; clear hH2_; simp only [List.getElem_toArray, List.getElem_cons_succ, List.getElem_cons_zero, Act.put, List.setIfInBounds_toArray, List.set_cons_zero, List.set_cons_succ])
        (refine wpAnyH_take (i := 9) (v := ?_) rfl (by kernel_rfl) (by kernel_rfl) (by kernel_rfl) (fun _ _ _ h => h) (Or.inl ⟨by rfl, ?_⟩) hH_ ?_; rotate_left; (focus (intro w_ hSw_; go_simp; try (with_reducible rfl))); simp only [List.getElem_toArray, List.getElem_cons_succ, List.getElem_cons_zero, Act.put, List.setIfInBounds_toArray, List.set_cons_zero, List.set_cons_succ])
        (refine wpAnyH_ready (rs := [10]) (by kernel_rfl) (by simp) ?_; refine AllReadyH.cons rfl (fun K hK => ?_) AllReadyH.nil; have F := (Hy).facts; simp only [factsOf, Asr.facts, blkFacts, cellsAre, List.toList_toArray, forall_const, Nat.zero_add, Nat.reduceAdd, and_true, true_and] at F; go_simp; refine Cx.genP (C := K _) (by (repeat (with_reducible (first | exact (Hy).toS | exact At.here | apply At.there | apply CxS.drewN | apply CxS.drew | apply CxS.alloc | apply CxS.set | apply CxS.setRow)))) (fun Wn Hn => ?_); clear F Hy; have Hy := Hn; clear Hn; (try simp only [List.setIfInBounds_toArray, List.set_cons_zero, List.set_cons_succ] at Hy); refine hK.out _ _ (Hy.blk (b := w.heap.size + 1) (o := .cells (u8A s) 34 (0, 0)) (by repeat (with_reducible (first | exact At.here | apply At.there)))) (fun hH2_ => ?_); clear hK K hH_; have hH_ := hH2_; clear hH2_; try simp only [List.getElem_toArray, List.getElem_cons_succ, List.getElem_cons_zero, Act.put, List.setIfInBounds_toArray, List.set_cons_zero, List.set_cons_succ])
        refine wpAnyH_done (by kernel_rfl) ?_ _
        clear hH_; have F := (Hy).facts; simp only [factsOf, Asr.facts, blkFacts, cellsAre, List.toList_toArray, forall_const, Nat.zero_add, Nat.reduceAdd, and_true, true_and] at F; go_wp2; ((try simp only [Exit.inBlock, Exit.then]); (apply Cx.atPost); (focus ((repeat (with_reducible (first | exact (Hy).toS | exact At.here | apply At.there | apply CxS.drewN | apply CxS.drew | apply CxS.alloc | apply CxS.set | apply CxS.setRow))))); intro HT); try simp only [List.setIfInBounds_toArray, List.set_cons_zero, List.set_cons_succ] at HT; exact bodyPost_ret (results_ct rfl _ _ (w.heap.size + 1 + 1) _ _ (0, 0) _ rfl (HT.blk (b := w.heap.size + 1 + 1) At.here) Try.underlying50 rfl rf_info) rfl ⟨_, _, _, HN8.out, by rw [← HY.out]; rfl, HH.out.join (HT.head (a := .own rwaitR _ (x.waiting ++ [(i, s)])) (by repeat (with_reducible (first | exact At.here | apply At.there))))⟩
      · refine Cx.stepOne (e := 87) (v := .agg (wrC (i, s)).toArray) Hy rfl 48 (.tmp 33) rfl rfl (rf_slice1 (i, s) HS.out) ?_
        intro g7 W7 Hy
        (refine hK.out _ _ (Hy.blk (b := w.heap.size + 1) (o := .cells (u8A s) 34 (0, 0)) (by repeat (with_reducible (first | exact At.here | apply At.there)))) (fun hH2_ => ?_); clear hK K hH_; have hH_ := hH2_; clear hH2_; simp only [List.getElem_toArray, List.getElem_cons_succ, List.getElem_cons_zero, Act.put, List.setIfInBounds_toArray, List.set_cons_zero, List.set_cons_succ])
        refine wpAnyH_ready (rs := [3]) (by kernel_rfl) (by simp) ?_
        refine AllReadyH.cons rfl (fun K hK => ?_) AllReadyH.nil
        refine Cx.stepApp [] x.waiting Hy (by repeat (with_reducible (first | exact At.here | apply At.there))) rfl (.tmp 27) (.tmp 29) 48 rfl Try.underlying48 wr_info2 (by simp [Value.cells, wrC, sz0]) (by decide) (by decide) rfl rfl (HR2.out.below Hy.bel) HNIL.out (fun y _ => wrC_one y) (by have := HR2.out.1; have := HL.out; simp; omega) ?_
        intro g3 n3 c3 W3 hn3 Hy
        have HN3 := Aside0.mk hn3
        clear hn3
        (refine hK.out _ _ (Hy.blk (b := w.heap.size + 1) (o := .cells (u8A s) 34 (0, 0)) (by repeat (with_reducible (first | exact At.here | apply At.there)))) (fun hH2_ => ?_); clear hK K hH_; have hH_ := hH2_; clear hH2_; simp only [List.getElem_toArray, List.getElem_cons_succ, List.getElem_cons_zero, Act.put, List.setIfInBounds_toArray, List.set_cons_zero, List.set_cons_succ])
        refine wpAnyH_ready (rs := [8]) (by kernel_rfl) (by simp) ?_
        refine AllReadyH.cons rfl (fun K hK => ?_) AllReadyH.nil
        refine Cx.stepApp ([] ++ x.waiting) [(i, s)] Hy (by repeat (with_reducible (first | exact At.here | apply At.there))) rfl (.tmp 30) (.tmp 34) 48 rfl Try.underlying48 wr_info2 (by simp [Value.cells, wrC, sz0]) (by decide) (by decide) rfl rfl (rowAt_one (Hy.blk (b := g7) (o := .cells (wrC (i, s)).toArray 87 (0, 0)) (by repeat (with_reducible (first | exact At.here | apply At.there)))) (wrC_len _ HS.out)) (fun h => by cases h) (fun y _ => wrC_one y) (by have := HR2.out.1; have := HL.out; simp; omega) ?_
        intro g8 n8 c8 W8 hn8 Hy
        have HN8 := Aside0.mk hn8
        clear hn8
        rw [List.nil_append] at Hy HN8
        (refine hK.out _ _ (Hy.blk (b := w.heap.size + 1) (o := .cells (u8A s) 34 (0, 0)) (by repeat (with_reducible (first | exact At.here | apply At.there)))) (fun hH2_ => ?_); clear hK K hH_; have hH_ := hH2_; clear hH2_; simp only [List.getElem_toArray, List.getElem_cons_succ, List.getElem_cons_zero, Act.put, List.setIfInBounds_toArray, List.set_cons_zero, List.set_cons_succ])
        (refine wpAnyH_take (i := 9) (v := ?_) rfl (by kernel_rfl) (by kernel_rfl) (by kernel_rfl) (fun _ _ _ h => h) (Or.inl ⟨by rfl, ?_⟩) hH_ ?_; rotate_left; (focus (intro w_ hSw_; go_simp; try (with_reducible rfl))); simp only [List.getElem_toArray, List.getElem_cons_succ, List.getElem_cons_zero, Act.put, List.setIfInBounds_toArray, List.set_cons_zero, List.set_cons_succ])
        (refine wpAnyH_ready (rs := [10]) (by kernel_rfl) (by simp) ?_; refine AllReadyH.cons rfl (fun K hK => ?_) AllReadyH.nil; have F := (Hy).facts; simp only [factsOf, Asr.facts, blkFacts, cellsAre, List.toList_toArray, forall_const, Nat.zero_add, Nat.reduceAdd, and_true, true_and] at F; go_simp; refine Cx.genP (C := K _) (by (repeat (with_reducible (first | exact (Hy).toS | exact At.here | apply At.there | apply CxS.drewN | apply CxS.drew | apply CxS.alloc | apply CxS.set | apply CxS.setRow)))) (fun Wn Hn => ?_); clear F Hy; have Hy := Hn; clear Hn; (try simp only [List.setIfInBounds_toArray, List.set_cons_zero, List.set_cons_succ] at Hy); refine hK.out _ _ (Hy.blk (b := w.heap.size + 1) (o := .cells (u8A s) 34 (0, 0)) (by repeat (with_reducible (first | exact At.here | apply At.there)))) (fun hH2_ => ?_); clear hK K hH_; have hH_ := hH2_; clear hH2_; try simp only [List.getElem_toArray, List.getElem_cons_succ, List.getElem_cons_zero, Act.put, List.setIfInBounds_toArray, List.set_cons_zero, List.set_cons_succ])
        refine wpAnyH_done (by kernel_rfl) ?_ _
        clear hH_; have F := (Hy).facts; simp only [factsOf, Asr.facts, blkFacts, cellsAre, List.toList_toArray, forall_const, Nat.zero_add, Nat.reduceAdd, and_true, true_and] at F; go_wp2; ((try simp only [Exit.inBlock, Exit.then]); (apply Cx.atPost); (focus ((repeat (with_reducible (first | exact (Hy).toS | exact At.here | apply At.there | apply CxS.drewN | apply CxS.drew | apply CxS.alloc | apply CxS.set | apply CxS.setRow))))); intro HT); try simp only [List.setIfInBounds_toArray, List.set_cons_zero, List.set_cons_succ] at HT; exact bodyPost_ret (results_ct rfl _ _ (w.heap.size + 1 + 1) _ _ (0, 0) _ rfl (HT.blk (b := w.heap.size + 1 + 1) At.here) Try.underlying50 rfl rf_info) rfl ⟨_, _, _, HN8.out, by rw [← HY.out]; rfl, HH.out.join (HT.head (a := .own rwaitR _ (x.waiting ++ [(i, s)])) (by repeat (with_reducible (first | exact At.here | apply At.there))))⟩
    · refine Cx.stepOne (e := 87) (v := .agg (wrC (i, s)).toArray) Hy rfl 48 (.tmp 33) rfl rfl (rf_slice1 (i, s) HS.out) ?_
      intro g7 W7 Hy
      (refine hK.out _ _ (Hy.blk (b := w.heap.size + 1) (o := .cells (u8A s) 34 (0, 0)) (by repeat (with_reducible (first | exact At.here | apply At.there)))) (fun hH2_ => ?_); clear hK K hH_; have hH_ := hH2_; clear hH2_; simp only [List.getElem_toArray, List.getElem_cons_succ, List.getElem_cons_zero, Act.put, List.setIfInBounds_toArray, List.set_cons_zero, List.set_cons_succ])
      refine wpAnyH_ready (rs := [0]) (by kernel_rfl) (by simp) ?_
      refine AllReadyH.cons rfl (fun K hK => ?_) AllReadyH.nil
      refine Cx.stepNil (e := 87) (sz := 129) (enc := wrC) Hy rfl 48 rfl rf_slice0 ?_
      intro g0 W0 Hy
      (refine hK.out _ _ (Hy.blk (b := w.heap.size + 1) (o := .cells (u8A s) 34 (0, 0)) (by repeat (with_reducible (first | exact At.here | apply At.there)))) (fun hH2_ => ?_); clear hK K hH_; have hH_ := hH2_; clear hH2_; simp only [List.getElem_toArray, List.getElem_cons_succ, List.getElem_cons_zero, Act.put, List.setIfInBounds_toArray, List.set_cons_zero, List.set_cons_succ])
      refine wpAnyH_ready (rs := [3]) (by kernel_rfl) (by simp) ?_
      refine AllReadyH.cons rfl (fun K hK => ?_) AllReadyH.nil
      refine Cx.stepApp [] x.waiting Hy (by repeat (with_reducible (first | exact At.here | apply At.there))) rfl (.tmp 27) (.tmp 29) 48 rfl Try.underlying48 wr_info2 (by simp [Value.cells, wrC, sz0]) (by decide) (by decide) rfl rfl (HR2.out.below Hy.bel) HNIL.out (fun y _ => wrC_one y) (by have := HR2.out.1; have := HL.out; simp; omega) ?_
      intro g3 n3 c3 W3 hn3 Hy
      have HN3 := Aside0.mk hn3
      clear hn3
      (refine hK.out _ _ (Hy.blk (b := w.heap.size + 1) (o := .cells (u8A s) 34 (0, 0)) (by repeat (with_reducible (first | exact At.here | apply At.there)))) (fun hH2_ => ?_); clear hK K hH_; have hH_ := hH2_; clear hH2_; simp only [List.getElem_toArray, List.getElem_cons_succ, List.getElem_cons_zero, Act.put, List.setIfInBounds_toArray, List.set_cons_zero, List.set_cons_succ])
      refine wpAnyH_ready (rs := [8]) (by kernel_rfl) (by simp) ?_
      refine AllReadyH.cons rfl (fun K hK => ?_) AllReadyH.nil
      refine Cx.stepApp ([] ++ x.waiting) [(i, s)] Hy (by repeat (with_reducible (first | exact At.here | apply At.there))) rfl (.tmp 30) (.tmp 34) 48 rfl Try.underlying48 wr_info2 (by simp [Value.cells, wrC, sz0]) (by decide) (by decide) rfl rfl (rowAt_one (Hy.blk (b := g7) (o := .cells (wrC (i, s)).toArray 87 (0, 0)) (by repeat (with_reducible (first | exact At.here | apply At.there)))) (wrC_len _ HS.out)) (fun h => by cases h) (fun y _ => wrC_one y) (by have := HR2.out.1; have := HL.out; simp; omega) ?_
      intro g8 n8 c8 W8 hn8 Hy
      have HN8 := Aside0.mk hn8
      clear hn8
      rw [List.nil_append] at Hy HN8
      (refine hK.out _ _ (Hy.blk (b := w.heap.size + 1) (o := .cells (u8A s) 34 (0, 0)) (by repeat (with_reducible (first | exact At.here | apply At.there)))) (fun hH2_ => ?_); clear hK K hH_; have hH_ := hH2_; clear hH2_; simp only [List.getElem_toArray, List.getElem_cons_succ, List.getElem_cons_zero, Act.put, List.setIfInBounds_toArray, List.set_cons_zero, List.set_cons_succ])
      (refine wpAnyH_take (i := 9) (v := ?_) rfl (by kernel_rfl) (by kernel_rfl) (by kernel_rfl) (fun _ _ _ h => h) (Or.inl ⟨by rfl, ?_⟩) hH_ ?_; rotate_left; (focus (intro w_ hSw_; go_simp; try (with_reducible rfl))); simp only [List.getElem_toArray, List.getElem_cons_succ, List.getElem_cons_zero, Act.put, List.setIfInBounds_toArray, List.set_cons_zero, List.set_cons_succ])
      (refine wpAnyH_ready (rs := [10]) (by kernel_rfl) (by simp) ?_; refine AllReadyH.cons rfl (fun K hK => ?_) AllReadyH.nil; have F := (Hy).facts; simp only [factsOf, Asr.facts, blkFacts, cellsAre, List.toList_toArray, forall_const, Nat.zero_add, Nat.reduceAdd, and_true, true_and] at F; go_simp; refine Cx.genP (C := K _) (by (repeat (with_reducible (first | exact (Hy).toS | exact At.here | apply At.there | apply CxS.drewN | apply CxS.drew | apply CxS.alloc | apply CxS.set | apply CxS.setRow)))) (fun Wn Hn => ?_); clear F Hy; have Hy := Hn; clear Hn; (try simp only [List.setIfInBounds_toArray, List.set_cons_zero, List.set_cons_succ] at Hy); refine hK.out _ _ (Hy.blk (b := w.heap.size + 1) (o := .cells (u8A s) 34 (0, 0)) (by repeat (with_reducible (first | exact At.here | apply At.there)))) (fun hH2_ => ?_); clear hK K hH_; have hH_ := hH2_; clear hH2_; try simp only [List.getElem_toArray, List.getElem_cons_succ, List.getElem_cons_zero, Act.put, List.setIfInBounds_toArray, List.set_cons_zero, List.set_cons_succ])
      refine wpAnyH_done (by kernel_rfl) ?_ _
      clear hH_; have F := (Hy).facts; simp only [factsOf, Asr.facts, blkFacts, cellsAre, List.toList_toArray, forall_const, Nat.zero_add, Nat.reduceAdd, and_true, true_and] at F; go_wp2; ((try simp only [Exit.inBlock, Exit.then]); (apply Cx.atPost); (focus ((repeat (with_reducible (first | exact (Hy).toS | exact At.here | apply At.there | apply CxS.drewN | apply CxS.drew | apply CxS.alloc | apply CxS.set | apply CxS.setRow))))); intro HT); try simp only [List.setIfInBounds_toArray, List.set_cons_zero, List.set_cons_succ] at HT; exact bodyPost_ret (results_ct rfl _ _ (w.heap.size + 1 + 1) _ _ (0, 0) _ rfl (HT.blk (b := w.heap.size + 1 + 1) At.here) Try.underlying50 rfl rf_info) rfl ⟨_, _, _, HN8.out, by rw [← HY.out]; rfl, HH.out.join (HT.head (a := .own rwaitR _ (x.waiting ++ [(i, s)])) (by repeat (with_reducible (first | exact At.here | apply At.there))))⟩
  · refine Cx.stepOne (e := 87) (v := .agg (wrC (i, s)).toArray) Hy rfl 48 (.tmp 33) rfl rfl (rf_slice1 (i, s) HS.out) ?_
    intro g7 W7 Hy
    (refine hK.out _ _ (Hy.blk (b := w.heap.size + 1) (o := .cells (u8A s) 34 (0, 0)) (by repeat (with_reducible (first | exact At.here | apply At.there)))) (fun hH2_ => ?_); clear hK K hH_; have hH_ := hH2_; clear hH2_; simp only [List.getElem_toArray, List.getElem_cons_succ, List.getElem_cons_zero, Act.put, List.setIfInBounds_toArray, List.set_cons_zero, List.set_cons_succ])
    refine wpAnyH_ready (rs := [0, 2]) (by kernel_rfl) (by simp) ?_
    refine AllReadyH.cons rfl (fun K hK => ?_) (AllReadyH.cons rfl (fun K hK => ?_) AllReadyH.nil)
    · refine Cx.stepNil (e := 87) (sz := 129) (enc := wrC) Hy rfl 48 rfl rf_slice0 ?_
      intro g0 W0 Hy
      (refine hK.out _ _ (Hy.blk (b := w.heap.size + 1) (o := .cells (u8A s) 34 (0, 0)) (by repeat (with_reducible (first | exact At.here | apply At.there)))) (fun hH2_ => ?_); clear hK K hH_; have hH_ := hH2_; clear hH2_; simp only [List.getElem_toArray, List.getElem_cons_succ, List.getElem_cons_zero, Act.put, List.setIfInBounds_toArray, List.set_cons_zero, List.set_cons_succ])
      refine wpAnyH_ready (rs := [2]) (by kernel_rfl) (by simp) ?_
      refine AllReadyH.cons rfl (fun K hK => ?_) AllReadyH.nil
      refine step_exec rfl (exec_load_cell 48 (.tmp 28) rfl w.heap.size 1 rfl (.slice A2 n2 c2) (run_isAgg_plain Try.underlying48 rfl _) ((cell_of (Hy.blk (b := w.heap.size) (o := .cells (rfC A1 n1 c1 A2 n2 c2 y.steps y.left y.armed y.gone) 50 (0, 0)) (by repeat (with_reducible (first | exact At.here | apply At.there)))) 1).trans rfl)) ?_
      (refine hK.out _ _ (Hy.blk (b := w.heap.size + 1) (o := .cells (u8A s) 34 (0, 0)) (by repeat (with_reducible (first | exact At.here | apply At.there)))) (fun hH2_ => ?_); clear hK K hH_; have hH_ := hH2_; clear hH2_; simp only [List.getElem_toArray, List.getElem_cons_succ, List.getElem_cons_zero, Act.put, List.setIfInBounds_toArray, List.set_cons_zero, List.set_cons_succ])
      refine wpAnyH_ready (rs := [3]) (by kernel_rfl) (by simp) ?_
      refine AllReadyH.cons rfl (fun K hK => ?_) AllReadyH.nil
      refine Cx.stepApp [] x.waiting Hy (by repeat (with_reducible (first | exact At.here | apply At.there))) rfl (.tmp 27) (.tmp 29) 48 rfl Try.underlying48 wr_info2 (by simp [Value.cells, wrC, sz0]) (by decide) (by decide) rfl rfl (HR2.out.below Hy.bel) HNIL.out (fun y _ => wrC_one y) (by have := HR2.out.1; have := HL.out; simp; omega) ?_
      intro g3 n3 c3 W3 hn3 Hy
      have HN3 := Aside0.mk hn3
      clear hn3
      (refine hK.out _ _ (Hy.blk (b := w.heap.size + 1) (o := .cells (u8A s) 34 (0, 0)) (by repeat (with_reducible (first | exact At.here | apply At.there)))) (fun hH2_ => ?_); clear hK K hH_; have hH_ := hH2_; clear hH2_; simp only [List.getElem_toArray, List.getElem_cons_succ, List.getElem_cons_zero, Act.put, List.setIfInBounds_toArray, List.set_cons_zero, List.set_cons_succ])
      refine wpAnyH_ready (rs := [8]) (by kernel_rfl) (by simp) ?_
      refine AllReadyH.cons rfl (fun K hK => ?_) AllReadyH.nil
      refine Cx.stepApp ([] ++ x.waiting) [(i, s)] Hy (by repeat (with_reducible (first | exact At.here | apply At.there))) rfl (.tmp 30) (.tmp 34) 48 rfl Try.underlying48 wr_info2 (by simp [Value.cells, wrC, sz0]) (by decide) (by decide) rfl rfl (rowAt_one (Hy.blk (b := g7) (o := .cells (wrC (i, s)).toArray 87 (0, 0)) (by repeat (with_reducible (first | exact At.here | apply At.there)))) (wrC_len _ HS.out)) (fun h => by cases h) (fun y _ => wrC_one y) (by have := HR2.out.1; have := HL.out; simp; omega) ?_
      intro g8 n8 c8 W8 hn8 Hy
      have HN8 := Aside0.mk hn8
      clear hn8
      rw [List.nil_append] at Hy HN8
      (refine hK.out _ _ (Hy.blk (b := w.heap.size + 1) (o := .cells (u8A s) 34 (0, 0)) (by repeat (with_reducible (first | exact At.here | apply At.there)))) (fun hH2_ => ?_); clear hK K hH_; have hH_ := hH2_; clear hH2_; simp only [List.getElem_toArray, List.getElem_cons_succ, List.getElem_cons_zero, Act.put, List.setIfInBounds_toArray, List.set_cons_zero, List.set_cons_succ])
      (refine wpAnyH_take (i := 9) (v := ?_) rfl (by kernel_rfl) (by kernel_rfl) (by kernel_rfl) (fun _ _ _ h => h) (Or.inl ⟨by rfl, ?_⟩) hH_ ?_; rotate_left; (focus (intro w_ hSw_; go_simp; try (with_reducible rfl))); simp only [List.getElem_toArray, List.getElem_cons_succ, List.getElem_cons_zero, Act.put, List.setIfInBounds_toArray, List.set_cons_zero, List.set_cons_succ])
      (refine wpAnyH_ready (rs := [10]) (by kernel_rfl) (by simp) ?_; refine AllReadyH.cons rfl (fun K hK => ?_) AllReadyH.nil; have F := (Hy).facts; simp only [factsOf, Asr.facts, blkFacts, cellsAre, List.toList_toArray, forall_const, Nat.zero_add, Nat.reduceAdd, and_true, true_and] at F; go_simp; refine Cx.genP (C := K _) (by (repeat (with_reducible (first | exact (Hy).toS | exact At.here | apply At.there | apply CxS.drewN | apply CxS.drew | apply CxS.alloc | apply CxS.set | apply CxS.setRow)))) (fun Wn Hn => ?_); clear F Hy; have Hy := Hn; clear Hn; (try simp only [List.setIfInBounds_toArray, List.set_cons_zero, List.set_cons_succ] at Hy); refine hK.out _ _ (Hy.blk (b := w.heap.size + 1) (o := .cells (u8A s) 34 (0, 0)) (by repeat (with_reducible (first | exact At.here | apply At.there)))) (fun hH2_ => ?_); clear hK K hH_; have hH_ := hH2_; clear hH2_; try simp only [List.getElem_toArray, List.getElem_cons_succ, List.getElem_cons_zero, Act.put, List.setIfInBounds_toArray, List.set_cons_zero, List.set_cons_succ])
      refine wpAnyH_done (by kernel_rfl) ?_ _
      clear hH_; have F := (Hy).facts; simp only [factsOf, Asr.facts, blkFacts, cellsAre, List.toList_toArray, forall_const, Nat.zero_add, Nat.reduceAdd, and_true, true_and] at F; go_wp2; ((try simp only [Exit.inBlock, Exit.then]); (apply Cx.atPost); (focus ((repeat (with_reducible (first | exact (Hy).toS | exact At.here | apply At.there | apply CxS.drewN | apply CxS.drew | apply CxS.alloc | apply CxS.set | apply CxS.setRow))))); intro HT); try simp only [List.setIfInBounds_toArray, List.set_cons_zero, List.set_cons_succ] at HT; exact bodyPost_ret (results_ct rfl _ _ (w.heap.size + 1 + 1) _ _ (0, 0) _ rfl (HT.blk (b := w.heap.size + 1 + 1) At.here) Try.underlying50 rfl rf_info) rfl ⟨_, _, _, HN8.out, by rw [← HY.out]; rfl, HH.out.join (HT.head (a := .own rwaitR _ (x.waiting ++ [(i, s)])) (by repeat (with_reducible (first | exact At.here | apply At.there))))⟩
    · refine step_exec rfl (exec_load_cell 48 (.tmp 28) rfl w.heap.size 1 rfl (.slice A2 n2 c2) (run_isAgg_plain Try.underlying48 rfl _) ((cell_of (Hy.blk (b := w.heap.size) (o := .cells (rfC A1 n1 c1 A2 n2 c2 y.steps y.left y.armed y.gone) 50 (0, 0)) (by repeat (with_reducible (first | exact At.here | apply At.there)))) 1).trans rfl)) ?_
      (refine hK.out _ _ (Hy.blk (b := w.heap.size + 1) (o := .cells (u8A s) 34 (0, 0)) (by repeat (with_reducible (first | exact At.here | apply At.there)))) (fun hH2_ => ?_); clear hK K hH_; have hH_ := hH2_; clear hH2_; simp only [List.getElem_toArray, List.getElem_cons_succ, List.getElem_cons_zero, Act.put, List.setIfInBounds_toArray, List.set_cons_zero, List.set_cons_succ])
      refine wpAnyH_ready (rs := [0]) (by kernel_rfl) (by simp) ?_
      refine AllReadyH.cons rfl (fun K hK => ?_) AllReadyH.nil
      refine Cx.stepNil (e := 87) (sz := 129) (enc := wrC) Hy rfl 48 rfl rf_slice0 ?_
      intro g0 W0 Hy
      (refine hK.out _ _ (Hy.blk (b := w.heap.size + 1) (o := .cells (u8A s) 34 (0, 0)) (by repeat (with_reducible (first | exact At.here | apply At.there)))) (fun hH2_ => ?_); clear hK K hH_; have hH_ := hH2_; clear hH2_; simp only [List.getElem_toArray, List.getElem_cons_succ, List.getElem_cons_zero, Act.put, List.setIfInBounds_toArray, List.set_cons_zero, List.set_cons_succ])
      refine wpAnyH_ready (rs := [3]) (by kernel_rfl) (by simp) ?_
      refine AllReadyH.cons rfl (fun K hK => ?_) AllReadyH.nil
      refine Cx.stepApp [] x.waiting Hy (by repeat (with_reducible (first | exact At.here | apply At.there))) rfl (.tmp 27) (.tmp 29) 48 rfl Try.underlying48 wr_info2 (by simp [Value.cells, wrC, sz0]) (by decide) (by decide) rfl rfl (HR2.out.below Hy.bel) HNIL.out (fun y _ => wrC_one y) (by have := HR2.out.1; have := HL.out; simp; omega) ?_
      intro g3 n3 c3 W3 hn3 Hy
      have HN3 := Aside0.mk hn3
      clear hn3
      (refine hK.out _ _ (Hy.blk (b := w.heap.size + 1) (o := .cells (u8A s) 34 (0, 0)) (by repeat (with_reducible (first | exact At.here | apply At.there)))) (fun hH2_ => ?_); clear hK K hH_; have hH_ := hH2_; clear hH2_; simp only [List.getElem_toArray, List.getElem_cons_succ, List.getElem_cons_zero, Act.put, List.setIfInBounds_toArray, List.set_cons_zero, List.set_cons_succ])
      refine wpAnyH_ready (rs := [8]) (by kernel_rfl) (by simp) ?_
      refine AllReadyH.cons rfl (fun K hK => ?_) AllReadyH.nil
      refine Cx.stepApp ([] ++ x.waiting) [(i, s)] Hy (by repeat (with_reducible (first | exact At.here | apply At.there))) rfl (.tmp 30) (.tmp 34) 48 rfl Try.underlying48 wr_info2 (by simp [Value.cells, wrC, sz0]) (by decide) (by decide) rfl rfl (rowAt_one (Hy.blk (b := g7) (o := .cells (wrC (i, s)).toArray 87 (0, 0)) (by repeat (with_reducible (first | exact At.here | apply At.there)))) (wrC_len _ HS.out)) (fun h => by cases h) (fun y _ => wrC_one y) (by have := HR2.out.1; have := HL.out; simp; omega) ?_
      intro g8 n8 c8 W8 hn8 Hy
      have HN8 := Aside0.mk hn8
      clear hn8
      rw [List.nil_append] at Hy HN8
      (refine hK.out _ _ (Hy.blk (b := w.heap.size + 1) (o := .cells (u8A s) 34 (0, 0)) (by repeat (with_reducible (first | exact At.here | apply At.there)))) (fun hH2_ => ?_); clear hK K hH_; have hH_ := hH2_; clear hH2_; simp only [List.getElem_toArray, List.getElem_cons_succ, List.getElem_cons_zero, Act.put, List.setIfInBounds_toArray, List.set_cons_zero, List.set_cons_succ])
      (refine wpAnyH_take (i := 9) (v := ?_) rfl (by kernel_rfl) (by kernel_rfl) (by kernel_rfl) (fun _ _ _ h => h) (Or.inl ⟨by rfl, ?_⟩) hH_ ?_; rotate_left; (focus (intro w_ hSw_; go_simp; try (with_reducible rfl))); simp only [List.getElem_toArray, List.getElem_cons_succ, List.getElem_cons_zero, Act.put, List.setIfInBounds_toArray, List.set_cons_zero, List.set_cons_succ])
      (refine wpAnyH_ready (rs := [10]) (by kernel_rfl) (by simp) ?_; refine AllReadyH.cons rfl (fun K hK => ?_) AllReadyH.nil; have F := (Hy).facts; simp only [factsOf, Asr.facts, blkFacts, cellsAre, List.toList_toArray, forall_const, Nat.zero_add, Nat.reduceAdd, and_true, true_and] at F; go_simp; refine Cx.genP (C := K _) (by (repeat (with_reducible (first | exact (Hy).toS | exact At.here | apply At.there | apply CxS.drewN | apply CxS.drew | apply CxS.alloc | apply CxS.set | apply CxS.setRow)))) (fun Wn Hn => ?_); clear F Hy; have Hy := Hn; clear Hn; (try simp only [List.setIfInBounds_toArray, List.set_cons_zero, List.set_cons_succ] at Hy); refine hK.out _ _ (Hy.blk (b := w.heap.size + 1) (o := .cells (u8A s) 34 (0, 0)) (by repeat (with_reducible (first | exact At.here | apply At.there)))) (fun hH2_ => ?_); clear hK K hH_; have hH_ := hH2_; clear hH2_; try simp only [List.getElem_toArray, List.getElem_cons_succ, List.getElem_cons_zero, Act.put, List.setIfInBounds_toArray, List.set_cons_zero, List.set_cons_succ])
      refine wpAnyH_done (by kernel_rfl) ?_ _
      clear hH_; have F := (Hy).facts; simp only [factsOf, Asr.facts, blkFacts, cellsAre, List.toList_toArray, forall_const, Nat.zero_add, Nat.reduceAdd, and_true, true_and] at F; go_wp2; ((try simp only [Exit.inBlock, Exit.then]); (apply Cx.atPost); (focus ((repeat (with_reducible (first | exact (Hy).toS | exact At.here | apply At.there | apply CxS.drewN | apply CxS.drew | apply CxS.alloc | apply CxS.set | apply CxS.setRow))))); intro HT); try simp only [List.setIfInBounds_toArray, List.set_cons_zero, List.set_cons_succ] at HT; exact bodyPost_ret (results_ct rfl _ _ (w.heap.size + 1 + 1) _ _ (0, 0) _ rfl (HT.blk (b := w.heap.size + 1 + 1) At.here) Try.underlying50 rfl rf_info) rfl ⟨_, _, _, HN8.out, by rw [← HY.out]; rfl, HH.out.join (HT.head (a := .own rwaitR _ (x.waiting ++ [(i, s)])) (by repeat (with_reducible (first | exact At.here | apply At.there))))⟩

-- AUX RQ
set_option maxRecDepth 100000 in
set_option maxHeartbeats 4000000 in
theorem rf_flush_no (x : Rf) (A1 : Option Addr) (n1 c1 : Nat) (A2 : Option Addr) (n2 c2 : Nat) (hok : x.ok = false) (w : World) :
    Calls Try.prog 35 #[.agg (rfC A1 n1 c1 A2 n2 c2 x.steps x.left x.armed x.gone)] w fun e w1 => e = .returned (.tuple #[.agg (rfC A1 n1 c1 A2 n2 c2 x.step.steps x.step.left x.step.armed x.step.gone), .int .i64 3]) ∧ Below w.heap.size w w1 := by
  have Hc := Cx.start w
  have hu := Try.underlying50
  have HK := Aside0.mk hok
  clear hok
  go_enter Try.func35, Try.ntmps35
  go_wp2_with fail
  ((first | apply Cx.genCall | apply Cx.genCode | apply Cx.genList); (focus ((repeat (with_reducible (first | exact (Hc).toS | exact At.here | apply At.there | apply CxS.drewN | apply CxS.drew | apply CxS.alloc | apply CxS.set | apply CxS.setRow))))); clear Hc; intro wa Ha)
  refine (rf_step x A1 n1 c1 A2 n2 c2 _).mono ?_
  rintro e wb ⟨rfl, hb⟩
  have Hb := Ha.below hb
  clear Ha hb
  rw [HK.out]
  have F := (Hb).facts; simp only [factsOf, Asr.facts, blkFacts, cellsAre, List.toList_toArray, forall_const, Nat.zero_add, Nat.reduceAdd, and_true, true_and] at F
  go_wp2
  ((try simp only [Exit.inBlock, Exit.then]); (apply Cx.atPost); (focus ((repeat (with_reducible (first | exact (Hb).toS | exact At.here | apply At.there | apply CxS.drewN | apply CxS.drew | apply CxS.alloc | apply CxS.set | apply CxS.setRow))))); intro HT)
  try simp only [List.setIfInBounds_toArray, List.set_cons_zero, List.set_cons_succ] at HT
  exact bodyPost_ret (results_ct rfl _ _ (w.heap.size + 1) _ _ (0, 0) _ rfl (HT.blk (o := .cells (rfC A1 n1 c1 A2 n2 c2 x.step.steps x.step.left x.step.armed x.step.gone) 50 (0, 0)) (by repeat (with_reducible (first | exact At.here | apply At.there)))) Try.underlying50 rfl rf_info) rfl ⟨by first | rfl | trivial, HT.bel⟩
set_option maxRecDepth 100000 in
set_option maxHeartbeats 4000000 in
theorem rf_flush_yes {B : Nat} {w0 w : World} {m : List Asr} (x : Rf) (g1 n1 c1 : Nat) (A2 : Option Addr) (n2 c2 : Nat) (hok : x.ok = true) (H : Cx B w0 w m) (h1 : rowAt 128 secE w (some ⟨g1, 0, none⟩) n1 c1 x.secs) (h2 : rowAt 129 wrC w A2 n2 c2 x.waiting)
    (hin : ∀ p ∈ x.waiting, 0 ≤ p.1 ∧ p.1 < n1) (hl1 : 0 < n1 ∧ n1 ≤ 100000) (hl2 : n2 ≤ 100000) :
    Calls Try.prog 35 #[.agg (rfC (some ⟨g1, 0, none⟩) n1 c1 A2 n2 c2 x.steps x.left x.armed x.gone)] w fun e w1 => ∃ g c, e = .returned (.tuple #[.agg (rfC (some ⟨g, 0, none⟩) n1 c none 0 0 x.step.steps x.step.left x.step.armed x.step.gone), .int .i64 0]) ∧ Cx B w0 w1 (.own secsR (.slice (some ⟨g, 0, none⟩) n1 c) (doneL x.secs x.waiting) :: m) := by
  have Hc := Cx.start w
  have hu := Try.underlying50
  have HK := Aside0.mk hok
  have HH := Aside0.mk H
  have HR1 := Aside0.mk h1
  have HR2 := Aside0.mk h2
  have HI := Aside0.mk hin
  have HL := Aside0.mk (And.intro hl1 hl2)
  clear hok H h1 h2 hin hl1 hl2
  go_enter Try.func35, Try.ntmps35
  go_wp2_with fail
  ((first | apply Cx.genCall | apply Cx.genCode | apply Cx.genList); (focus ((repeat (with_reducible (first | exact (Hc).toS | exact At.here | apply At.there | apply CxS.drewN | apply CxS.drew | apply CxS.alloc | apply CxS.set | apply CxS.setRow))))); clear Hc; intro wa Ha)
  refine (rf_step x (some ⟨g1, 0, none⟩) n1 c1 A2 n2 c2 _).mono ?_
  rintro e wb ⟨rfl, hb⟩
  have Hb := Ha.below hb
  clear Ha hb
  rw [HK.out]
  have F := (Hb).facts; simp only [factsOf, Asr.facts, blkFacts, cellsAre, List.toList_toArray, forall_const, Nat.zero_add, Nat.reduceAdd, and_true, true_and] at F
  go_wp2_with fail
  ((first | apply Cx.genCall | apply Cx.genCode | apply Cx.genList); (focus ((repeat (with_reducible (first | exact (Hb).toS | exact At.here | apply At.there | apply CxS.drewN | apply CxS.drew | apply CxS.alloc | apply CxS.set | apply CxS.setRow))))); clear Hb; intro wc Hd)
  try simp only [List.setIfInBounds_toArray, List.set_cons_zero, List.set_cons_succ] at Hd
  refine (rf_done g1 n1 c1 A2 n2 c2 x.secs x.waiting Hd (HR1.out.below Hd.bel) (HR2.out.below Hd.bel) HI.out HL.out.1 HL.out.2).mono ?_
  rintro e we ⟨g, c, rfl, He⟩
  clear Hd F
  have F := (He).facts; simp only [factsOf, Asr.facts, blkFacts, cellsAre, List.toList_toArray, forall_const, Nat.zero_add, Nat.reduceAdd, and_true, true_and] at F
  go_wp2
  ((try simp only [Exit.inBlock, Exit.then]); (apply Cx.atPost); (focus ((repeat (with_reducible (first | exact (He).toS | exact At.here | apply At.there | apply CxS.drewN | apply CxS.drew | apply CxS.alloc | apply CxS.set | apply CxS.setRow))))); intro HT)
  try simp only [List.setIfInBounds_toArray, List.set_cons_zero, List.set_cons_succ] at HT
  exact bodyPost_ret (results_ct rfl _ _ (w.heap.size + 1) _ _ (0, 0) _ rfl (HT.blk (o := .cells (rfC (some ⟨g, 0, none⟩) n1 c none 0 0 x.step.steps x.step.left x.step.armed x.step.gone) 50 (0, 0)) (by repeat (with_reducible (first | exact At.here | apply At.there)))) Try.underlying50 rfl rf_info) rfl ⟨g, c, by first | rfl | trivial, HH.out.join (HT.head (a := .own secsR (.slice (some ⟨g, 0, none⟩) n1 c) (doneL x.secs x.waiting)) (by repeat (with_reducible (first | exact At.here | apply At.there))))⟩
def Rf.readL (x : Rf) (i : Int) : List Int × Int := if x.gone = true then (sz0, 3) else if i < 0 ∨ (x.secs.length : Int) ≤ i then (sz0, 1) else ((doneL x.secs x.waiting).getD i.toNat sz0, 0)
set_option maxRecDepth 100000 in
set_option maxHeartbeats 4000000 in
theorem rf_read_bad (x : Rf) (A1 : Option Addr) (n1 c1 : Nat) (A2 : Option Addr) (n2 c2 : Nat) (i : Int) (hn : n1 = x.secs.length) (hbad : x.gone = true ∨ i < 0 ∨ (n1 : Int) ≤ i) (w : World) :
    Calls Try.prog 37 #[.agg (rfC A1 n1 c1 A2 n2 c2 x.steps x.left x.armed x.gone), .int .i64 i] w fun e w1 => e = .returned (.tuple #[.agg (u8A (x.readL i).1), .int .i64 (x.readL i).2]) ∧ Below w.heap.size w w1 := by
  have hz := dk_zero
  have Hc := Cx.start w
  have hu := Try.underlying50
  have F : True := trivial
  cases hg : x.gone
  · have hr : x.readL i = (sz0, 1) := by
      have h2 : i < 0 ∨ (x.secs.length : Int) ≤ i := by rw [← hn]; exact hbad.resolve_left (by rw [hg]; exact fun h => by cases h)
      simp [Rf.readL, hg, h2]
    rw [hr]
    have hbad2 : i < 0 ∨ (n1 : Int) ≤ i := hbad.resolve_left (by rw [hg]; exact fun h => by cases h)
    clear hbad hr hg hn
    rcases hbad2 with hi | hi
    · have hb0 : decide (i < 0) = true := by simp [hi]
      clear hi
      go_enter Try.func37, Try.ntmps37
      go_wp2_with ((((with_reducible refine gate_store (t := 34) (x := .tmp 4) (y := .tmp 18) rfl ?_); (apply Cx.atList); (focus ((repeat (with_reducible (first | exact (Hc).toS | exact At.here | apply At.there | apply CxS.drewN | apply CxS.drew | apply CxS.alloc | apply CxS.set | apply CxS.setRow))))); intro HT_; refine wpList_store_row rfl 34 (.tmp 4) (.tmp 18) rfl (w.heap.size + 1) (u8A sz0) rfl rfl _ _ (HT_.blk (by repeat (with_reducible (first | exact At.here | apply At.there)))) (dk_isz sz0_len) (rfl) (u8A_one _) ?_; clear HT_); clear F; (apply Cx.genList); (focus ((repeat (with_reducible (first | exact (Hc).toS | exact At.here | apply At.there | apply CxS.drewN | apply CxS.drew | apply CxS.alloc | apply CxS.set | apply CxS.setRow))))); clear Hc; intro w4 Hc4; have F := (Hc4).facts; simp only [factsOf, Asr.facts, blkFacts, cellsAre, List.toList_toArray, forall_const, Nat.zero_add, Nat.reduceAdd, and_true, true_and] at F))
      ((try simp only [Exit.inBlock, Exit.then]); (apply Cx.atPost); (focus ((repeat (with_reducible (first | exact (Hc4).toS | exact At.here | apply At.there | apply CxS.drewN | apply CxS.drew | apply CxS.alloc | apply CxS.set | apply CxS.setRow))))); intro HT)
      exact bodyPost_ret (results_ct rfl _ _ (w.heap.size + 1) _ (u8A sz0) (0, 0) _ rfl (HT.blk (by repeat (with_reducible (first | exact At.here | apply At.there)))) Try.underlying34 rfl (dk_isz sz0_len)) rfl ⟨by first | rfl | trivial, HT.bel⟩
    · have hb1 : ¬ i < 0 := by omega
      go_enter Try.func37, Try.ntmps37
      go_wp2_with ((((with_reducible refine gate_store (t := 34) (x := .tmp 4) (y := .tmp 18) rfl ?_); (apply Cx.atList); (focus ((repeat (with_reducible (first | exact (Hc).toS | exact At.here | apply At.there | apply CxS.drewN | apply CxS.drew | apply CxS.alloc | apply CxS.set | apply CxS.setRow))))); intro HT_; refine wpList_store_row rfl 34 (.tmp 4) (.tmp 18) rfl (w.heap.size + 1) (u8A sz0) rfl rfl _ _ (HT_.blk (by repeat (with_reducible (first | exact At.here | apply At.there)))) (dk_isz sz0_len) (rfl) (u8A_one _) ?_; clear HT_); clear F; (apply Cx.genList); (focus ((repeat (with_reducible (first | exact (Hc).toS | exact At.here | apply At.there | apply CxS.drewN | apply CxS.drew | apply CxS.alloc | apply CxS.set | apply CxS.setRow))))); clear Hc; intro w4 Hc4; have F := (Hc4).facts; simp only [factsOf, Asr.facts, blkFacts, cellsAre, List.toList_toArray, forall_const, Nat.zero_add, Nat.reduceAdd, and_true, true_and] at F))
      ((try simp only [Exit.inBlock, Exit.then]); (apply Cx.atPost); (focus ((repeat (with_reducible (first | exact (Hc4).toS | exact At.here | apply At.there | apply CxS.drewN | apply CxS.drew | apply CxS.alloc | apply CxS.set | apply CxS.setRow))))); intro HT)
      exact bodyPost_ret (results_ct rfl _ _ (w.heap.size + 1) _ (u8A sz0) (0, 0) _ rfl (HT.blk (by repeat (with_reducible (first | exact At.here | apply At.there)))) Try.underlying34 rfl (dk_isz sz0_len)) rfl ⟨by first | rfl | trivial, HT.bel⟩
  · have hr : x.readL i = (sz0, 3) := by simp [Rf.readL, hg]
    rw [hr]
    clear hr hbad hg
    go_enter Try.func37, Try.ntmps37
    go_wp2_with ((((with_reducible refine gate_store (t := 34) (x := .tmp 4) (y := .tmp 8) rfl ?_); (apply Cx.atList); (focus ((repeat (with_reducible (first | exact (Hc).toS | exact At.here | apply At.there | apply CxS.drewN | apply CxS.drew | apply CxS.alloc | apply CxS.set | apply CxS.setRow))))); intro HT_; refine wpList_store_row rfl 34 (.tmp 4) (.tmp 8) rfl (w.heap.size + 1) (u8A sz0) rfl rfl _ _ (HT_.blk (by repeat (with_reducible (first | exact At.here | apply At.there)))) (dk_isz sz0_len) (rfl) (u8A_one _) ?_; clear HT_); clear F; (apply Cx.genList); (focus ((repeat (with_reducible (first | exact (Hc).toS | exact At.here | apply At.there | apply CxS.drewN | apply CxS.drew | apply CxS.alloc | apply CxS.set | apply CxS.setRow))))); clear Hc; intro w4 Hc4; have F := (Hc4).facts; simp only [factsOf, Asr.facts, blkFacts, cellsAre, List.toList_toArray, forall_const, Nat.zero_add, Nat.reduceAdd, and_true, true_and] at F))
    ((try simp only [Exit.inBlock, Exit.then]); (apply Cx.atPost); (focus ((repeat (with_reducible (first | exact (Hc4).toS | exact At.here | apply At.there | apply CxS.drewN | apply CxS.drew | apply CxS.alloc | apply CxS.set | apply CxS.setRow))))); intro HT)
    exact bodyPost_ret (results_ct rfl _ _ (w.heap.size + 1) _ (u8A sz0) (0, 0) _ rfl (HT.blk (by repeat (with_reducible (first | exact At.here | apply At.there)))) Try.underlying34 rfl (dk_isz sz0_len)) rfl ⟨by first | rfl | trivial, HT.bel⟩
set_option maxRecDepth 100000 in
set_option maxHeartbeats 4000000 in
theorem rf_read_ok (x : Rf) (g1 n1 c1 : Nat) (A2 : Option Addr) (n2 c2 : Nat) (n : Nat) (w : World) (hg : x.gone = false) (hi : n < n1) (h1 : rowAt 128 secE w (some ⟨g1, 0, none⟩) n1 c1 x.secs) (h2 : rowAt 129 wrC w A2 n2 c2 x.waiting)
    (hin : ∀ p ∈ x.waiting, 0 ≤ p.1 ∧ p.1 < n1) (hl1 : 0 < n1 ∧ n1 ≤ 100000) (hl2 : n2 ≤ 100000) :
    Calls Try.prog 37 #[.agg (rfC (some ⟨g1, 0, none⟩) n1 c1 A2 n2 c2 x.steps x.left x.armed x.gone), .int .i64 (n : Int)] w fun e w1 => e = .returned (.tuple #[.agg (u8A (x.readL n).1), .int .i64 (x.readL n).2]) ∧ Below w.heap.size w w1 := by
  have hz := dk_zero
  have Hc := Cx.start w
  have hu := Try.underlying50
  have hn := h1.1
  have hr : x.readL n = ((doneL x.secs x.waiting).getD n sz0, 0) := by
    unfold Rf.readL
    rw [if_neg (by simp [hg]), if_neg (by omega), Int.toNat_natCast]
  rw [hr]
  have hdl : n < (doneL x.secs x.waiting).length := by rw [doneL_len]; omega
  obtain ⟨s, hs⟩ : ∃ s, (doneL x.secs x.waiting)[n]? = some s := ⟨_, List.getElem?_eq_getElem hdl⟩
  rw [List.getD_eq_getElem?_getD, hs, Option.getD_some]
  have HG := Aside0.mk hg
  have HR1 := Aside0.mk h1
  have HR2 := Aside0.mk h2
  have HI := Aside0.mk hin
  have HS := Aside0.mk hs
  have HL := Aside0.mk (And.intro hl1 hl2)
  have hn0 : (0 : Int) ≤ (n : Int) := by omega
  have hn1 : (n : Int) < (n1 : Int) := by omega
  clear hr hdl hs h1 h2 hin hl1 hl2 hn hi hg
  rw [HG.out]
  go_enter Try.func37, Try.ntmps37
  go_wp2_with fail
  ((first | apply Cx.genCall | apply Cx.genCode | apply Cx.genList); (focus ((repeat (with_reducible (first | exact (Hc).toS | exact At.here | apply At.there | apply CxS.drewN | apply CxS.drew | apply CxS.alloc | apply CxS.set | apply CxS.setRow))))); clear Hc; intro wc Hd)
  refine (rf_done g1 n1 c1 A2 n2 c2 x.secs x.waiting Hd (HR1.out.below Hd.bel) (HR2.out.below Hd.bel) HI.out HL.out.1 HL.out.2).mono ?_
  rintro e we ⟨g, c, rfl, He⟩
  clear Hd
  obtain ⟨g', hg', hgl, _, hsl, hcell⟩ := He.bigAt (xs := doneL x.secs x.waiting) (n := n1) (c := c) (A := some ⟨g, 0, none⟩) At.here n s HS.out
  injection hg' with hg'
  injection hg' with hg'
  subst hg'
  have hs128 : s.length = 128 := by simpa using hsl
  have HSL := Aside0.mk hs128
  have hrg : we.rangeAt g (n * 128) (secE s) := fun j u hu => hcell j u hu
  clear hcell hsl hs128
  have F : True := trivial
  go_wp2_with (first | ((with_reducible refine gate_load (t := 34) (x := .tmp 25) rfl ?_); refine wpList_load_mid rfl 34 (.tmp 25) rfl (g) (n * 128) rfl (secE s) _ (hrg) Try.underlying34 rfl (by rw [List.length_map, HSL.out]; exact dk_info) ?_) | (((with_reducible refine gate_store (t := 34) (x := .tmp 4) (y := .tmp 26) rfl ?_); (apply Cx.atList); (focus ((repeat (with_reducible (first | exact (He).toS | exact At.here | apply At.there | apply CxS.drewN | apply CxS.drew | apply CxS.alloc | apply CxS.set | apply CxS.setRow))))); intro HT_; refine wpList_store_row rfl 34 (.tmp 4) (.tmp 26) rfl (w.heap.size + 1) (u8A s) rfl rfl _ _ (HT_.blk (by repeat (with_reducible (first | exact At.here | apply At.there)))) (dk_isz HSL.out) (by rw [u8A_size, u8A_size, sz0_len, HSL.out]) (u8A_one _) ?_; clear HT_); clear F; (apply Cx.genList); (focus ((repeat (with_reducible (first | exact (He).toS | exact At.here | apply At.there | apply CxS.drewN | apply CxS.drew | apply CxS.alloc | apply CxS.set | apply CxS.setRow))))); clear He; intro w4 He4; have F := (He4).facts; simp only [factsOf, Asr.facts, blkFacts, cellsAre, List.toList_toArray, forall_const, Nat.zero_add, Nat.reduceAdd, and_true, true_and] at F))
  ((try simp only [Exit.inBlock, Exit.then]); (apply Cx.atPost); (focus ((repeat (with_reducible (first | exact (He4).toS | exact At.here | apply At.there | apply CxS.drewN | apply CxS.drew | apply CxS.alloc | apply CxS.set | apply CxS.setRow))))); intro HT)
  exact bodyPost_ret (results_ct rfl _ _ (w.heap.size + 1) _ (u8A s) (0, 0) _ rfl (HT.blk (by repeat (with_reducible (first | exact At.here | apply At.there)))) Try.underlying34 rfl (dk_isz HSL.out)) rfl ⟨by first | rfl | trivial, HT.bel⟩

-- AUX RW
def Rf.Good (x : Rf) : Prop := (∀ p ∈ x.waiting, 0 ≤ p.1 ∧ p.1 < x.secs.length) ∧ (0 < x.secs.length ∧ x.secs.length ≤ 100000) ∧ x.waiting.length < 100000
def Rf.put (x : Rf) (i : Int) (s : List Int) : Rf × Int := if i < 0 ∨ (x.secs.length : Int) ≤ i then (x, 1) else if x.ok = true then ({ x.step with waiting := x.waiting ++ [(i, s)] }, 0) else (x.step, 3)
def Rf.flush (x : Rf) : Rf × Int := if x.ok = true then ({ x.step with secs := doneL x.secs x.waiting, waiting := [] }, 0) else (x.step, 3)
def Rf.crash (x : Rf) (l : List Bool) : Rf := { x with secs := doneL x.secs (keptL (keepB l) x.waiting x.waiting.length), waiting := [], armed := false, gone := false }
def Rf.arm (x : Rf) (n : Int) : Rf × Int := if n < 0 then (x, 1) else ({ x with armed := true, left := n }, 0)
theorem Rf.step_rest (x : Rf) : x.step.secs = x.secs ∧ x.step.waiting = x.waiting ∧ x.step.armed = x.armed := by
  unfold Rf.step
  (repeat' split) <;> exact ⟨rfl, rfl, rfl⟩
theorem RfAt.rows {B : Nat} {w0 w : World} {m : List Asr} {x : Rf} {A1 : Option Addr} {n1 c1 : Nat} {A2 : Option Addr} {n2 c2 : Nat} (h : RfAt m x A1 n1 c1 A2 n2 c2) (H : Cx B w0 w m) (h0 : 0 < x.secs.length) :
    ∃ g1, A1 = some ⟨g1, 0, none⟩ ∧ n1 = x.secs.length ∧ n2 = x.waiting.length ∧ rowAt 128 secE w (some ⟨g1, 0, none⟩) n1 c1 x.secs ∧ rowAt 129 wrC w A2 n2 c2 x.waiting := by
  obtain ⟨q1, k1⟩ := h.s
  obtain ⟨q2, k2⟩ := h.w
  have r1 := H.rowOf k1
  have r2 := H.rowOf k2
  obtain ⟨g, e, _⟩ := r1.2.2.2 0 _ (List.getElem?_eq_getElem h0)
  subst e
  exact ⟨g, rfl, r1.1, r2.1, r1, r2⟩
theorem RfAt.same {m : List Asr} {x y : Rf} {A1 : Option Addr} {n1 c1 : Nat} {A2 : Option Addr} {n2 c2 : Nat} (h : RfAt m x A1 n1 c1 A2 n2 c2) (e1 : y.secs = x.secs) (e2 : y.waiting = x.waiting) : RfAt m y A1 n1 c1 A2 n2 c2 :=
  ⟨by rw [e1]; exact h.s, by rw [e2]; exact h.w, h.z⟩
/-- What the document's answer gives: the disk then, and where its rows lie. -/
def RfOut (w : World) (m : List Asr) (y : Rf) (bad : Option Int) (e : Ending) (w1 : World) : Prop :=
  ∃ (A1 : Option Addr) (n1 c1 : Nat) (A2 : Option Addr) (n2 c2 : Nat) (ex : List Asr), e = .returned (match bad with | some b => .tuple #[.agg (rfC A1 n1 c1 A2 n2 c2 y.steps y.left y.armed y.gone), .int .i64 b] | none => .agg (rfC A1 n1 c1 A2 n2 c2 y.steps y.left y.armed y.gone)) ∧ Cx w.heap.size w w1 ex ∧ RfAt (ex ++ m) y A1 n1 c1 A2 n2 c2
theorem rf_put {B : Nat} {w0 w : World} {m : List Asr} {x : Rf} {A1 : Option Addr} {n1 c1 : Nat} {A2 : Option Addr} {n2 c2 : Nat} (i : Int) (s : List Int) (hs : s.length = 128) (H : Cx B w0 w m) (h : RfAt m x A1 n1 c1 A2 n2 c2) (hg : x.Good) :
    Calls Try.prog 34 #[.agg (rfC A1 n1 c1 A2 n2 c2 x.steps x.left x.armed x.gone), .int .i64 i, .agg (u8A s)] w fun e w1 => RfOut w m (x.put i s).1 (some (x.put i s).2) e w1 := by
  obtain ⟨g1, rfl, hn1, hn2, h1, h2⟩ := h.rows H hg.2.1.1
  have hst := x.step_rest
  by_cases hb : i < 0 ∨ (x.secs.length : Int) ≤ i
  · refine (rf_put_bad x _ n1 c1 A2 n2 c2 i s (by rw [hn1]; exact hb) w).mono ?_
    rintro e w1 ⟨rfl, hbel⟩
    rw [show x.put i s = (x, 1) from if_pos hb]
    exact ⟨_, _, _, _, _, _, [], rfl, (Cx.start w).below hbel, h⟩
  · rw [not_or] at hb
    cases hok : x.ok
    · refine (rf_put_no x _ n1 c1 A2 n2 c2 i s hb.1 (by rw [hn1]; exact hb.2) hok w).mono ?_
      rintro e w1 ⟨rfl, hbel⟩
      rw [show x.put i s = (x.step, 3) by unfold Rf.put; rw [if_neg (by rw [not_or]; exact hb), if_neg (by simp [hok])]]
      exact ⟨_, _, _, _, _, _, [], rfl, (Cx.start w).below hbel, h.same hst.1 hst.2.1⟩
    · refine (rf_put_yes x _ n1 c1 A2 n2 c2 i s hb.1 (by rw [hn1]; exact hb.2) hok hs (Cx.start w) h2 h.z (by rw [hn2]; exact Nat.le_of_lt hg.2.2)).mono ?_
      rintro e w1 ⟨g, n, c, hn, rfl, H2⟩
      rw [show x.put i s = ({ x.step with waiting := x.waiting ++ [(i, s)] }, 0) by unfold Rf.put; rw [if_neg (by rw [not_or]; exact hb), if_pos hok]]
      obtain ⟨q, kq⟩ := (h.cons (.own rwaitR (.slice (some ⟨g, 0, none⟩) n c) (x.waiting ++ [(i, s)]))).s
      exact ⟨_, _, _, _, _, _, [.own rwaitR (.slice (some ⟨g, 0, none⟩) n c) (x.waiting ++ [(i, s)])], rfl, H2, ⟨q, by dsimp only; rw [hst.1]; exact kq⟩, ⟨_, .here⟩, fun h0 => by rw [hn, List.length_append] at h0; simp at h0⟩
theorem rf_flush {B : Nat} {w0 w : World} {m : List Asr} {x : Rf} {A1 : Option Addr} {n1 c1 : Nat} {A2 : Option Addr} {n2 c2 : Nat} (H : Cx B w0 w m) (h : RfAt m x A1 n1 c1 A2 n2 c2) (hg : x.Good) :
    Calls Try.prog 35 #[.agg (rfC A1 n1 c1 A2 n2 c2 x.steps x.left x.armed x.gone)] w fun e w1 => RfOut w m x.flush.1 (some x.flush.2) e w1 := by
  obtain ⟨g1, rfl, hn1, hn2, h1, h2⟩ := h.rows H hg.2.1.1
  have hst := x.step_rest
  cases hok : x.ok
  · refine (rf_flush_no x _ n1 c1 A2 n2 c2 hok w).mono ?_
    rintro e w1 ⟨rfl, hbel⟩
    rw [show x.flush = (x.step, 3) by unfold Rf.flush; rw [if_neg (by simp [hok])]]
    exact ⟨_, _, _, _, _, _, [], rfl, (Cx.start w).below hbel, h.same hst.1 hst.2.1⟩
  · refine (rf_flush_yes x g1 n1 c1 A2 n2 c2 hok (Cx.start w) h1 h2 (by rw [hn1]; exact hg.1) (by rw [hn1]; exact hg.2.1) (by rw [hn2]; exact Nat.le_of_lt hg.2.2)).mono ?_
    rintro e w1 ⟨g, c, rfl, H2⟩
    rw [show x.flush = ({ x.step with secs := doneL x.secs x.waiting, waiting := [] }, 0) by unfold Rf.flush; rw [if_pos hok]]
    exact ⟨_, _, _, _, _, _, [.own rwaitR (.slice none 0 0) [], .own secsR (.slice (some ⟨g, 0, none⟩) n1 c) (doneL x.secs x.waiting)], rfl, H2.bigNil _ _ _, ⟨_, .there .here⟩, ⟨_, .here⟩, fun _ => ⟨rfl, rfl⟩⟩
theorem rf_crashW {B : Nat} {w0 w : World} {m : List Asr} {x : Rf} {A1 : Option Addr} {n1 c1 : Nat} {A2 : Option Addr} {n2 c2 : Nat} (A0 : Option Addr) (N c : Nat) (l : List Bool) (H : Cx B w0 w m) (hk : Kd.C Kd.bool w A0 N l) (h : RfAt m x A1 n1 c1 A2 n2 c2) (hg : x.Good) :
    Calls Try.prog 36 #[.agg (rfC A1 n1 c1 A2 n2 c2 x.steps x.left x.armed x.gone), .slice A0 N c] w fun e w1 => RfOut w m (x.crash l) none e w1 := by
  obtain ⟨g1, rfl, hn1, hn2, h1, h2⟩ := h.rows H hg.2.1.1
  refine (rf_crash x g1 n1 c1 A2 n2 c2 A0 N c l (Cx.start w) h1 h2 hk (by rw [hn1]; exact hg.1) (by rw [hn1]; exact hg.2.1) (by rw [hn2]; exact Nat.le_of_lt hg.2.2)).mono ?_
  rintro e w1 ⟨g, c, rfl, H2⟩
  rw [hn2] at H2
  exact ⟨_, _, _, _, _, _, [.own rwaitR (.slice none 0 0) [], .own secsR (.slice (some ⟨g, 0, none⟩) n1 c) _], rfl, H2.bigNil _ _ _, ⟨_, .there .here⟩, ⟨_, .here⟩, fun _ => ⟨rfl, rfl⟩⟩
theorem rf_read {B : Nat} {w0 w : World} {m : List Asr} {x : Rf} {A1 : Option Addr} {n1 c1 : Nat} {A2 : Option Addr} {n2 c2 : Nat} (i : Int) (H : Cx B w0 w m) (h : RfAt m x A1 n1 c1 A2 n2 c2) (hg : x.Good) :
    Calls Try.prog 37 #[.agg (rfC A1 n1 c1 A2 n2 c2 x.steps x.left x.armed x.gone), .int .i64 i] w fun e w1 => e = .returned (.tuple #[.agg (u8A (x.readL i).1), .int .i64 (x.readL i).2]) ∧ Cx B w0 w1 m ∧ (x.readL i).1.length = 128 := by
  obtain ⟨g1, rfl, hn1, hn2, h1, h2⟩ := h.rows H hg.2.1.1
  have hlen : (x.readL i).1.length = 128 := by
    unfold Rf.readL
    split
    · exact sz0_len
    · split
      · exact sz0_len
      · have hd : ∀ (ws : List (Int × List Int)) (xs : List (List Int)), (∀ s ∈ xs, s.length = 128) → (∀ p ∈ ws, p.2.length = 128) → ∀ s ∈ doneL xs ws, s.length = 128 := by
          intro ws
          induction ws with
          | nil => exact fun xs h1 _ => h1
          | cons p ws ih =>
            intro xs h1 h2
            refine ih (xs.set p.1.toNat p.2) (fun s hs => ?_) (fun q hq => h2 q (List.mem_cons_of_mem _ hq))
            rcases List.mem_or_eq_of_mem_set hs with hs | hs
            · exact h1 s hs
            · rw [hs]; exact h2 p List.mem_cons_self
        have := hd x.waiting x.secs (fun s hs => by simpa using h1.2.2.1 s hs) (fun p hp => by simpa [wrC] using h2.2.2.1 p hp)
        rename_i hb
        have hlt : i.toNat < (doneL x.secs x.waiting).length := by rw [doneL_len]; omega
        dsimp only
        rw [List.getD_eq_getElem?_getD, List.getElem?_eq_getElem hlt, Option.getD_some]
        exact this _ (List.getElem_mem _)
  by_cases hb : x.gone = true ∨ i < 0 ∨ (n1 : Int) ≤ i
  · exact (rf_read_bad x _ n1 c1 A2 n2 c2 i hn1 hb w).mono fun e w1 hh => ⟨hh.1, H.below hh.2, hlen⟩
  · rw [not_or, not_or] at hb
    obtain ⟨n, rfl⟩ : ∃ n : Nat, i = (n : Int) := ⟨i.toNat, by omega⟩
    exact (rf_read_ok x g1 n1 c1 A2 n2 c2 n w (by simpa using hb.1) (by omega) h1 h2 (by rw [hn1]; exact hg.1) (by rw [hn1]; exact hg.2.1) (by rw [hn2]; exact Nat.le_of_lt hg.2.2)).mono fun e w1 hh => ⟨hh.1, H.below hh.2, hlen⟩
theorem At.app {l r : List Asr} {a : Asr} (k : At l a r) : ∀ ex : List Asr, At (ex ++ l) a (ex ++ r)
  | [] => k
  | _ :: ex => .there (k.app ex)
theorem Cx.front4 {B : Nat} {w0 w : World} {a b c d : Asr} {r : List Asr} (ex : List Asr) (H : Cx B w0 w (ex ++ (a :: b :: c :: d :: r))) : Cx B w0 w (a :: b :: c :: d :: (ex ++ r)) :=
  (((H.find ((At.there (At.there (At.there At.here))).app ex)).find (.there ((At.there (At.there At.here)).app ex))).find (.there (.there ((At.there At.here).app ex)))).find (.there (.there (.there (At.here.app ex))))

-- AUX SX
-- needs: wpAnyD_exec Cx.find
-- One law a kind of operation: what it does to the parts of memory that are known.
inductive Subl : List Asr → List Asr → Prop where
  | refl {l : List Asr} : Subl l l
  | nil {l : List Asr} : Subl [] l
  | take {a : Asr} {l m r : List Asr} (k : At m a r) (h : Subl l r) : Subl (a :: l) m
  | skip {a : Asr} {l m : List Asr} (h : Subl l m) : Subl l (a :: m)
theorem Sep.sub {w : World} {l m : List Asr} (h : Subl l m) : ∀ {T : Nat → Prop}, Sep w m T → Sep w l T := by
  induction h with
  | refl => exact fun h => h
  | nil => exact fun _ => trivial
  | take k _ ih =>
    intro T hs
    obtain ⟨S, ha, hT, hr⟩ := hs.find k
    exact ⟨S, ha, hT, ih hr⟩
  | skip _ ih =>
    rintro T ⟨S, _, _, hr⟩
    exact ih (hr.mono fun _ h => h.1)
theorem Cx.sub {B : Nat} {w0 w : World} {l m : List Asr} (H : Cx B w0 w m) (h : Subl l m) : Cx B w0 w l := ⟨H.bel, H.le, H.sep.sub h⟩
theorem Cx.drew {B : Nat} {w0 w : World} {m : List Asr} (H : Cx B w0 w m) : Cx B w0 w.drew m := H.toS.drew.cx
section
variable {P : Program} {ops : Array Oper} {o : Oper} {a : Act} {K : Act → World → Prop} {Q : Exit → Act → World → Prop} {S : World → Prop} {B : Nat} {w0 w : World} {m r : List Asr} {rest : List Oper} {v : Value}
theorem wpl_take (hy : YieldsIf P ops (fun _ => True) o v a) (h : wpList P ops Q rest (a.put o.dst v) w) : wpList P ops Q (o :: rest) a w := by
  refine wpList_step fun K hK => ?_
  rcases hy with ⟨hw, hv⟩ | ⟨hw, rfl⟩
  · rw [if_pos hw]
    unfold Oper.wp
    rw [hv w trivial]
    exact hK _ _ h
  · rw [if_neg (by rw [hw]; exact Bool.false_ne_true)]
    exact hK _ _ h
theorem wpl_exec (h : ∀ K : Act → World → Prop, Shut (∀ a' w', wpList P ops Q rest a' w' → K a' w') → if Region.wanted o (yielded ops a.tmps) = true then Oper.wp P o a w K Q else K (a.put o.dst undef) w) : wpList P ops Q (o :: rest) a w :=
  wpList_step fun K hK => h K hK
theorem st_run {w1 : World} (hw : Region.wanted o (yielded ops a.tmps) = true) (hrun : (execOp a.eval o).run P w = .ok (.value v) w1)
    (h : K (a.put o.dst v) w1) : if Region.wanted o (yielded ops a.tmps) = true then o.wp P a w K Q else K (a.put o.dst undef) w := by
  rw [if_pos hw]
  unfold Oper.wp
  rw [hrun]
  exact h
theorem st_pure (hw : Region.wanted o (yielded ops a.tmps) = true) (hrun : (execOp a.eval o).run P w = .ok (.value v) w)
    (h : K (a.put o.dst v) w) : if Region.wanted o (yielded ops a.tmps) = true then o.wp P a w K Q else K (a.put o.dst undef) w := st_run hw hrun h
theorem st_skip (hw : Region.wanted o (yielded ops a.tmps) = false) (h : K (a.put o.dst undef) w) : if Region.wanted o (yielded ops a.tmps) = true then o.wp P a w K Q else K (a.put o.dst undef) w := by
  rw [if_neg (by rw [hw]; exact Bool.false_ne_true)]
  exact h
/-- A cell of a block known whole. -/
theorem yields_cell {b j t : Nat} {cs : Array Value} (hw : Region.wanted o (yielded ops a.tmps) = true) (ty : TypeId) (x : Operand) (ho : o.op = .load ty x) (hx : a.eval x = .pointer (some ⟨b, j, none⟩))
    (hag : ∀ w, (isAgg ty).run P w = .ok false w) (hS : ∀ W, S W → Cx B w0 W m) (k : At m (.blk b (.cells cs t (0, 0))) r) (hc : cs[j]? = some v) : YieldsIf P ops S o v a :=
  .inl ⟨hw, fun w hw' => by
    have hcell : w.cell? ⟨b, j, none⟩ = some v := (cell_of ((hS w hw').blk k) j).trans hc
    have hl : (loadVar ty ⟨b, j, none⟩).run P w = .ok v w := by simp [loadVar, hag w, hcell]
    unfold execOp
    simp only [ho, hx, Instr.loadAt, Instr.sureAddr, Sem.run_bind, Sem.run_pure, Result.andThen_ok, hl]⟩
/-- A cell that stands in whatever world meets S. -/
theorem yields_at {b j : Nat} (hw : Region.wanted o (yielded ops a.tmps) = true) (ty : TypeId) (x : Operand) (ho : o.op = .load ty x) (hx : a.eval x = .pointer (some ⟨b, j, none⟩))
    (hag : ∀ w, (isAgg ty).run P w = .ok false w) (hS : ∀ W, S W → W.cell? ⟨b, j, none⟩ = some v) : YieldsIf P ops S o v a :=
  .inl ⟨hw, fun w hw' => by
    have hl : (loadVar ty ⟨b, j, none⟩).run P w = .ok v w := by simp [loadVar, hag w, hS w hw']
    unfold execOp
    simp only [ho, hx, Instr.loadAt, Instr.sureAddr, Sem.run_bind, Sem.run_pure, Result.andThen_ok, hl]⟩
/-- A whole block, of a struct or an array. -/
theorem yields_row {b t : Nat} {cs : Array Value} {d : TypeDesc} (hw : Region.wanted o (yielded ops a.tmps) = true) (ty : TypeId) (x : Operand) (ho : o.op = .load ty x) (hx : a.eval x = .pointer (some ⟨b, 0, none⟩))
    (hu : P.underlying ty = some d) (hd : (match d with | .struct _ | .array _ _ => true | _ => false) = true) (hi : (P.info? ty).map (·.size) = some cs.size) (hS : ∀ W, S W → Cx B w0 W m) (k : At m (.blk b (.cells cs t (0, 0))) r) : YieldsIf P ops S o (.agg cs) a :=
  .inl ⟨hw, fun w hw' => by
    unfold execOp
    simp only [ho, hx, Instr.loadAt, Instr.sureAddr, Sem.run_bind, Sem.run_pure, Result.andThen_ok, run_loadVar_row w b t ty cs (0, 0) d ((hS w hw').blk k) hu hd hi]⟩
theorem st_yields (hy : YieldsIf P ops S o v a) (hS : S w) (h : K (a.put o.dst v) w) : if Region.wanted o (yielded ops a.tmps) = true then o.wp P a w K Q else K (a.put o.dst undef) w := by
  rcases hy with ⟨hw, hv⟩ | ⟨hw, rfl⟩
  · rw [if_pos hw]
    unfold Oper.wp
    rw [hv w hS]
    exact h
  · rw [if_neg (by rw [hw]; exact Bool.false_ne_true)]
    exact h
/-- A store into a cell of a block known whole. -/
theorem st_store {b j t : Nat} {cs : Array Value} (H : Cx B w0 w m) (hw : Region.wanted o (yielded ops a.tmps) = true) (ty : TypeId) (x y : Operand) (ho : o.op = .store ty x y) (hx : a.eval x = .pointer (some ⟨b, j, none⟩)) (hy : a.eval y = v)
    (k : At m (.blk b (.cells cs t (0, 0))) r) (hj : j < cs.size) (h1 : v.oneCell' = true) (hi : (P.info? ty).map (·.size) = some 1)
    (h : ∀ w', Cx B w0 w' (.blk b (.cells (cs.setIfInBounds j v) t (0, 0)) :: r) → K (a.put o.dst undef) w') : if Region.wanted o (yielded ops a.tmps) = true then o.wp P a w K Q else K (a.put o.dst undef) w := by
  rw [if_pos hw]
  have hrun : (storeVar ty ⟨b, j, none⟩ v).run P w = .ok () (w.setCell ⟨b, j, none⟩ v) := by
    have hb := H.blk k
    have hc : v.cells = #[v] := by cases v <;> first | rfl | cases h1
    obtain ⟨i, hi1, hi2⟩ := Option.map_eq_some_iff.1 hi
    have hcell : w.cell? ⟨b, j, none⟩ = some cs[j] := (cell_of hb j).trans (by simp [hj])
    have hfr := frozen_of hb j
    have ha : (⟨b, j, none⟩ : Addr).add 0 = ⟨b, j, none⟩ := add_zero_ _
    simp [storeVar, hc, sizeOf, typeInfo, hi1, hi2, storeCells, ha, run_store P w _ _ _ h1, hcell, hfr]
  unfold Oper.wp execOp
  simp only [ho, hx, hy, Instr.storeAt, Instr.sureAddr, Sem.run_bind, Sem.run_pure, Result.andThen_ok, hrun]
  exact h _ (H.toS.set k j v).cx
theorem st_alloc {z : Value} (H : Cx B w0 w m) (hw : Region.wanted o (yielded ops a.tmps) = true) (ty : TypeId) (ho : o.op = .alloc ty) (hz : (P.info? ty).map (·.zero) = some (some z))
    (h : ∀ g w', Cx B w0 w' (.blk g (.cells z.cells ty (0, 0)) :: m) → K (a.put o.dst (.pointer (some ⟨g, 0, none⟩))) w') : if Region.wanted o (yielded ops a.tmps) = true then o.wp P a w K Q else K (a.put o.dst undef) w := by
  obtain ⟨i, hi1, hi2⟩ := Option.map_eq_some_iff.1 hz
  rw [if_pos hw]
  have hrun : (Instr.alloc ty true (.tuple #[])).run P w = .ok (.pointer (some ⟨w.heap.size, 0, none⟩)) (w.alloc (.cells z.cells ty)) := by
    simp [Instr.alloc, zeroValue, typeInfo, hi1, hi2, newVar, newRow]
  unfold Oper.wp execOp
  simp only [ho, Sem.run_bind, Sem.run_pure, Result.andThen_ok, hrun]
  exact h _ _ (H.toS.alloc _).cx
theorem st_box (H : Cx B w0 w m) (hw : Region.wanted o (yielded ops a.tmps) = true) (ty : TypeId) (x : Operand) (ho : o.op = .box ty x) (hx : a.eval x = v)
    (h : ∀ g w', Cx B w0 w' (.blk g (.cells v.cells ty (0, 0)) :: m) → K (a.put o.dst (.pointer (some ⟨g, 0, none⟩))) w') : if Region.wanted o (yielded ops a.tmps) = true then o.wp P a w K Q else K (a.put o.dst undef) w := by
  rw [if_pos hw]
  have hrun : (Instr.box ty v).run P w = .ok (.pointer (some ⟨w.heap.size, 0, none⟩)) (w.alloc (.cells v.cells ty)) := by
    simp [Instr.box, newVar, newRow]
  unfold Oper.wp execOp
  simp only [ho, hx, Sem.run_bind, Sem.run_pure, Result.andThen_ok, hrun]
  exact h _ _ (H.toS.alloc _).cx
/-- A store of a struct or an array over a whole block. -/
theorem st_storerow {b t : Nat} {cs cur : Array Value} (H : Cx B w0 w m) (hw : Region.wanted o (yielded ops a.tmps) = true) (ty : TypeId) (x y : Operand) (ho : o.op = .store ty x y) (hx : a.eval x = .pointer (some ⟨b, 0, none⟩)) (hy : a.eval y = .agg cs)
    (k : At m (.blk b (.cells cur t (0, 0))) r) (hcur : cur.size = cs.size) (hi : (P.info? ty).map (·.size) = some cs.size) (h1 : cs.all (·.oneCell') = true)
    (h : ∀ w', Cx B w0 w' (.blk b (.cells cs t (0, 0)) :: r) → K (a.put o.dst undef) w') : if Region.wanted o (yielded ops a.tmps) = true then o.wp P a w K Q else K (a.put o.dst undef) w := by
  rw [if_pos hw]
  exact wp_store_row ty x y ho b cs hx hy t cur (H.blk k) hi hcur h1 (h _ (H.toS.setRow k cs).cx)
theorem st_load {b j t : Nat} {cs : Array Value} (H : Cx B w0 w m) (hw : Region.wanted o (yielded ops a.tmps) = true) (ty : TypeId) (x : Operand) (ho : o.op = .load ty x) (hx : a.eval x = .pointer (some ⟨b, j, none⟩))
    (hag : ∀ w, (isAgg ty).run P w = .ok false w) (k : At m (.blk b (.cells cs t (0, 0))) r) (hc : cs[j]? = some v) (h : K (a.put o.dst v) w) : if Region.wanted o (yielded ops a.tmps) = true then o.wp P a w K Q else K (a.put o.dst undef) w :=
  st_yields (S := fun W => Cx B w0 W m) (yields_cell hw ty x ho hx hag (fun _ h => h) k hc) H h
theorem st_loadat {b j : Nat} (hw : Region.wanted o (yielded ops a.tmps) = true) (ty : TypeId) (x : Operand) (ho : o.op = .load ty x) (hx : a.eval x = .pointer (some ⟨b, j, none⟩))
    (hag : ∀ w, (isAgg ty).run P w = .ok false w) (hc : w.cell? ⟨b, j, none⟩ = some v) (h : K (a.put o.dst v) w) : if Region.wanted o (yielded ops a.tmps) = true then o.wp P a w K Q else K (a.put o.dst undef) w :=
  st_yields (S := fun W => W.cell? ⟨b, j, none⟩ = some v) (yields_at hw ty x ho hx hag (fun _ h => h)) hc h
theorem st_loadrow {b t : Nat} {cs : Array Value} {d : TypeDesc} (H : Cx B w0 w m) (hw : Region.wanted o (yielded ops a.tmps) = true) (ty : TypeId) (x : Operand) (ho : o.op = .load ty x) (hx : a.eval x = .pointer (some ⟨b, 0, none⟩))
    (hu : P.underlying ty = some d) (hd : (match d with | .struct _ | .array _ _ => true | _ => false) = true) (k : At m (.blk b (.cells cs t (0, 0))) r) (hi : (P.info? ty).map (·.size) = some cs.size) (h : K (a.put o.dst (.agg cs)) w) : if Region.wanted o (yielded ops a.tmps) = true then o.wp P a w K Q else K (a.put o.dst undef) w :=
  st_yields (S := fun W => Cx B w0 W m) (yields_row hw ty x ho hx hu hd hi (fun _ h => h) k) H h
theorem st_loadmid {b j : Nat} {cs : List Value} {d : TypeDesc} (hw : Region.wanted o (yielded ops a.tmps) = true) (ty : TypeId) (x : Operand) (ho : o.op = .load ty x) (hx : a.eval x = .pointer (some ⟨b, j, none⟩))
    (hu : P.underlying ty = some d) (hd : d.isRow = true) (hr : w.rangeAt b j cs) (hi : (P.info? ty).map (·.size) = some cs.length) (h : K (a.put o.dst (.agg cs.toArray)) w) : if Region.wanted o (yielded ops a.tmps) = true then o.wp P a w K Q else K (a.put o.dst undef) w := by
  rw [if_pos hw]
  exact wp_load_mid ty x ho b j hx cs _ hr hu hd hi h
/-- The beginning of a region that draws its order: the parts l are what its loads lean on. -/
theorem wp_region_Dx {id : Nat} (H : Cx B w0 w m) (hm : P.follows .mixedOrders = true) (l : List Asr) (I : List Nat) (hl : Subl l m)
    (h : ∀ w', Cx B w0 w' m → Cx B w0 w' l → wpAnyD P ops Q (fun W => Cx B w0 W l) I ops.size (Array.replicate ops.size false) a w') : (Code.region id ops true).wp P Q a w :=
  wp_region_D hm _ I (h _ H.drew (H.drew.sub hl))
end

-- AUX SXB
-- needs: st_run run_buildSlice_one exec_buildSlice
section
variable {P : Program} {ops : Array Oper} {o : Oper} {a : Act} {K : Act → World → Prop} {Q : Exit → Act → World → Prop} {B : Nat} {w0 w : World} {m m' r : List Asr} {v : Value}
theorem st_runx {w1 : World} (hw : Region.wanted o (yielded ops a.tmps) = true) (hrun : (execOp a.eval o).run P w = .ok (.value v) w1) (H : Cx B w0 w1 m')
    (h : ∀ w', Cx B w0 w' m' → K (a.put o.dst v) w') : if Region.wanted o (yielded ops a.tmps) = true then o.wp P a w K Q else K (a.put o.dst undef) w := st_run hw hrun (h _ H)
theorem exec_index {ρ : Operand → Value} (t : TypeId) (x y : Operand) (ho : o.op = .index t x y) (vx vy : Value) (hx : ρ x = vx) (hy : ρ y = vy) (hrun : (Instr.index t vx vy).run P w = .ok v w) : (execOp ρ o).run P w = .ok (.value v) w := by
  unfold execOp
  simp only [ho, hx, hy, Sem.run_bind, hrun, Result.andThen_ok]
  rfl
theorem exec_slice {ρ : Operand → Value} (t : TypeId) (x : Operand) (lo hi mx : Option Operand) (ho : o.op = .slice t x lo hi mx) (vx : Value) (vl vh vm : Option Value) (hx : ρ x = vx) (hl : lo.map ρ = vl) (hh : hi.map ρ = vh) (hm : mx.map ρ = vm) (hrun : (Instr.sliceAt t vx vl vh vm).run P w = .ok v w) : (execOp ρ o).run P w = .ok (.value v) w := by
  unfold execOp
  simp only [ho, hx, hl, hh, hm, Sem.run_bind, hrun, Result.andThen_ok]
  rfl
/-- 'T{x}', a slice of one element. -/
theorem st_bslice1 {e n : Nat} {z : Value} (H : Cx B w0 w m) (hw : Region.wanted o (yielded ops a.tmps) = true) (t : TypeId) (x : Operand) (ho : o.op = .buildSlice t 1 #[(0, x)]) (hx : a.eval x = v)
    (ht : P.underlying t = some (.slice e)) (hi : (P.info? e).map (fun i => (i.zero, i.size)) = some (some z, n)) (hz : z.cells.size = n) (hv : v.cells.size = n) (hn : 0 < n) (hn2 : n ≤ 16777216)
    (h : ∀ g w', Cx B w0 w' (.blk g (.cells v.cells e (0, 0)) :: m) → K (a.put o.dst (.slice (some ⟨g, 0, none⟩) 1 1)) w') : if Region.wanted o (yielded ops a.tmps) = true then o.wp P a w K Q else K (a.put o.dst undef) w :=
  st_run hw (exec_buildSlice t 1 #[(0, x)] ho #[(0, v)] (by simp [hx]) (run_buildSlice_one w t e n v z ht hi hz hv hn hn2)) (h _ _ (H.toS.alloc _).cx)
end

-- AUX SXG
/-- Where a walk halts. -/
def Halted (p : Prop) : Prop := p
theorem Halted.go {p : Prop} (h : p) : Halted p := h
theorem gate_stop {P : Program} {id : Nat} {ops : Array Oper} {d : Bool} {Q : Exit → Act → World → Prop} {a : Act} {w : World} (h : Halted ((Code.region id ops d).wp P Q a w)) : (Code.region id ops d).wp P Q a w := h
theorem gate_loop {P : Program} {c : Code} {Q : Exit → Act → World → Prop} {a : Act} {w : World} (h : Halted ((Code.loop c).wp P Q a w)) : (Code.loop c).wp P Q a w := h

/-! ### laminalaw02_long: function 10 -/
def laminalaw02_long.l0 : Nat → List (S36) → Int → Int → Option (Bool)
  | 0, _, _, _ => none
  | k + 1, x5, x6, x7 => if x7 < x6 then (if 0 ≤ x7 then (if x7 < (x5.length : Int) then (if x7 > 80 then (some true) else (if (((rd_T36 x5 x7).f3).length : Int) > 200 then (some true) else (laminalaw02_long.l0 k x5 x6 (wrap64 (x7 + 1))))) else (none)) else (none)) else (some false)
def laminalaw02_long.f (k : Nat) (l0 : List (S36)) : Option (Bool) := laminalaw02_long.l0 k l0 (l0.length : Int) 0
theorem laminalaw02_long.mono_l : ∀ k, (∀ y0 y1 y2, LeO (laminalaw02_long.l0 k y0 y1 y2) (laminalaw02_long.l0 (k + 1) y0 y1 y2))
  | 0 => fun _ _ _ r h => by simp [laminalaw02_long.l0] at h
  | k + 1 => by
    have ih0 := laminalaw02_long.mono_l k
    · intro y0 y1 y2
      unfold laminalaw02_long.l0
      repeat' first
      | (with_reducible exact ih0 _ _ _)
      | (with_reducible exact LeO.refl _)
      | (with_reducible exact LeO.none _)
      | (with_reducible refine LeO.ite ?_ ?_)
      | (with_reducible refine LeO.bind ?_ (fun _ => ?_))
      | exact ih0 _ _ _
      | exact LeO.none _
      | refine LeO.ite ?_ ?_
      | refine LeO.bind ?_ (fun _ => ?_)
theorem laminalaw02_long.mono : ∀ a0 k, LeO (laminalaw02_long.f k a0) (laminalaw02_long.f (k + 1) a0) := by
  intro a0 k
  have ih0 := laminalaw02_long.mono_l k
  unfold laminalaw02_long.f
  repeat' first
      | (with_reducible exact ih0 _ _ _)
      | (with_reducible exact LeO.refl _)
      | (with_reducible exact LeO.none _)
      | (with_reducible refine LeO.ite ?_ ?_)
      | (with_reducible refine LeO.bind ?_ (fun _ => ?_))
      | exact ih0 _ _ _
      | exact LeO.none _
      | refine LeO.ite ?_ ?_
      | refine LeO.bind ?_ (fun _ => ?_)
set_option maxHeartbeats 8000000 in
set_option maxRecDepth 100000 in
theorem laminalaw02_long.calls (k : Nat) (A0 : Option Addr) (c0 : Nat) (l0 : List (S36)) (r : Bool) (w : World) (hr0 : Kd.C k36 w A0 l0.length l0) (hc0 : l0.length ≤ c0) (h : laminalaw02_long.f k l0 = some r) :
    Calls Try.prog 10 #[.slice A0 l0.length c0] w fun e w' => e = .returned (.bool r) ∧ Below w.heap.size w w' := by
  have hu36 := Try.underlying36
  have HR0 := Aside0.mk hr0
  have HC0 := Aside0.mk hc0
  clear hr0 hc0
  have HB := Aside0.mk (Below.refl w.heap.size w)
  have H : (laminalaw02_long.l0 k l0 (l0.length : Int) 0) = some r := h
  clear h
  have H' := Aside0.mk H
  clear H
  go_enter Try.func10, Try.ntmps10
  go_wp2
  go_loopg [7] k (fun kq v7 w' => ∃ (x7_1 : Int), v7 = .int .i64 x7_1 ∧ Aside0 (laminalaw02_long.l0 kq l0 (l0.length : Int) x7_1 = some r) ∧ Aside0 (kq ≤ k) ∧ Aside0 (Below w.heap.size w w'))
  case atStart => exact ⟨(0), (by first | rfl | (simp; done) | (simp [*]; done)), H', ⟨Nat.le_refl _⟩, ⟨by repeat (first | (with_reducible first | exact HB.out | apply below_alloc | apply pw_below_drewN | apply below_drew1) | exact HB.out)⟩⟩
  case round =>
    clear H'
    try clear c1
    obtain ⟨x7_1, rfl, HA, HK1, HB⟩ := hrel
    cases gk with
    | zero => exact absurd HA.out (by simp [laminalaw02_long.l0])
    | succ k1 =>
      have H := HA.out
      clear HA
      simp only [laminalaw02_long.l0] at H
      by_cases c2 : x7_1 < (l0.length : Int)
      · rw [if_pos c2] at H
        have c2b0 : decide (x7_1 < (l0.length : Int)) = true := decide_eq_true c2
        clear c2
        by_cases c3 : 0 ≤ x7_1
        · rw [if_pos c3] at H
          have c3b0 : decide (0 ≤ x7_1) = true := decide_eq_true c3
          clear c3
          by_cases c4 : x7_1 < (l0.length : Int)
          · rw [if_pos c4] at H
            have c4b0 : decide (x7_1 < (l0.length : Int)) = true := decide_eq_true c4
            clear c4
            by_cases c5 : x7_1 > 80
            · rw [if_pos c5] at H
              have c5b0 : decide (80 < x7_1) = true := decide_eq_true c5
              clear c5
              obtain rfl := Option.some.inj H
              have p103 : 0 ≤ (x7_1 : Int) := of_decide_eq_true (by first | (with_reducible assumption) | assumption)
              have q103 : x7_1 < (l0.length : Int) := of_decide_eq_true (by first | (with_reducible assumption) | assumption)
              obtain ⟨ad103, A103_3, c103_3, e103, hx103_0, hx103_1, hx103_2, hx103_3, hl103_3, hi103_3⟩ := at_T36 HR0.out x7_1 p103 q103
              cases e103
              replace hx103_0 := (HB.out.cell (World.block_lt_of_cell? w _ hx103_0)).trans hx103_0
              replace hx103_1 := (HB.out.cell (World.block_lt_of_cell? w _ hx103_1)).trans hx103_1
              replace hx103_2 := (HB.out.cell (World.block_lt_of_cell? w _ hx103_2)).trans hx103_2
              replace hx103_3 := (HB.out.cell (World.block_lt_of_cell? w _ hx103_3)).trans hx103_3
              have HR103_3 := Aside0.mk hi103_3
              have HC103_3 := Aside0.mk hl103_3
              clear hi103_3 hl103_3
              replace p103 := eq_true p103
              replace q103 := eq_true q103
              go_wp2_with (first | ((with_reducible refine gate_dst (N := 4) rfl ?_); (try (refine gate_guard (by rfl) ?_; dsimp only)); refine box_event ?hg (N := 4) ?hd (cs := #[.int .i64 0, .int .i64 0, .int .u8 0, .slice none 0 0]) (t := 36) ?hr ?_; (case hd => rfl); (case hg => rfl); (case hr => first | (go_simp; done) | (go_simp; rfl)); intro gb104 hg w6 hbox hb; have n0_ := Aside0.mk (below_step (by repeat (first | (with_reducible first | exact HB.out | apply below_alloc | apply pw_below_drewN | apply below_drew1) | exact HB.out)) hb); have n1_ := Aside0.mk (hbox); have n2_ := Aside0.mk ((by rw [hg]; exact (below_size (by repeat (first | (with_reducible first | exact HB.out | apply below_alloc | apply pw_below_drewN | apply below_drew1) | exact HB.out))) : w.heap.size ≤ gb104)); have n3_ := Aside0.mk ((by rw [hg]; exact (below_size (by repeat (first | (with_reducible first | exact HB.out | apply below_alloc | apply pw_below_drewN | apply below_drew1) | exact HB.out))) : w.heap.size ≤ gb104)); clear HB; have HB := n0_; have BK104 := n1_; have GW104 := n2_; have GE104 := n3_; clear n0_ n1_ n2_ n3_; clear hb hbox hg; have hcz7_0 : w6.cell? ⟨gb104, 0, none⟩ = some (.int .i64 0) := (blk_cell BK104.out 0).trans rfl; have hcz7_1 : w6.cell? ⟨gb104, 1, none⟩ = some (.int .i64 0) := (blk_cell BK104.out 1).trans rfl; have hcz7_2 : w6.cell? ⟨gb104, 2, none⟩ = some (.int .u8 0) := (blk_cell BK104.out 2).trans rfl; have hcz7_3 : w6.cell? ⟨gb104, 3, none⟩ = some (.slice none 0 0) := (blk_cell BK104.out 3).trans rfl; have hfz7_0 := blk_frozen BK104.out 0; have hfz7_1 := blk_frozen BK104.out 1; have hfz7_2 := blk_frozen BK104.out 2; have hfz7_3 := blk_frozen BK104.out 3))
              go_ret
              exact ⟨by first | rfl | (simp [errW_none, errW_some] <;> rfl) | (simp [*, errW_none, errW_some] <;> rfl), by repeat (first | (with_reducible first | exact HB.out | apply below_alloc | apply pw_below_drewN | apply below_drew1 | refine below_set ?_ GE104.out) | exact HB.out)⟩
            · rw [if_neg c5] at H
              have c5b0 : decide (80 < x7_1) = false := decide_eq_false c5
              clear c5
              by_cases c8 : (((rd_T36 l0 x7_1).f3).length : Int) > 200
              · rw [if_pos c8] at H
                have c8b0 : decide (200 < (((rd_T36 l0 x7_1).f3).length : Int)) = true := decide_eq_true c8
                have c8b1 : decide (200 < ((rd_T36 l0 x7_1).f3).length) = true := decide_eq_true (by omega)
                clear c8
                obtain rfl := Option.some.inj H
                have p103 : 0 ≤ (x7_1 : Int) := of_decide_eq_true (by first | (with_reducible assumption) | assumption)
                have q103 : x7_1 < (l0.length : Int) := of_decide_eq_true (by first | (with_reducible assumption) | assumption)
                obtain ⟨ad103, A103_3, c103_3, e103, hx103_0, hx103_1, hx103_2, hx103_3, hl103_3, hi103_3⟩ := at_T36 HR0.out x7_1 p103 q103
                cases e103
                replace hx103_0 := (HB.out.cell (World.block_lt_of_cell? w _ hx103_0)).trans hx103_0
                replace hx103_1 := (HB.out.cell (World.block_lt_of_cell? w _ hx103_1)).trans hx103_1
                replace hx103_2 := (HB.out.cell (World.block_lt_of_cell? w _ hx103_2)).trans hx103_2
                replace hx103_3 := (HB.out.cell (World.block_lt_of_cell? w _ hx103_3)).trans hx103_3
                have HR103_3 := Aside0.mk hi103_3
                have HC103_3 := Aside0.mk hl103_3
                clear hi103_3 hl103_3
                replace p103 := eq_true p103
                replace q103 := eq_true q103
                go_wp2_with (first | ((with_reducible refine gate_dst (N := 4) rfl ?_); (try (refine gate_guard (by rfl) ?_; dsimp only)); refine box_event ?hg (N := 4) ?hd (cs := #[.int .i64 0, .int .i64 0, .int .u8 0, .slice none 0 0]) (t := 36) ?hr ?_; (case hd => rfl); (case hg => rfl); (case hr => first | (go_simp; done) | (go_simp; rfl)); intro gb104 hg w9 hbox hb; have n0_ := Aside0.mk (below_step (by repeat (first | (with_reducible first | exact HB.out | apply below_alloc | apply pw_below_drewN | apply below_drew1) | exact HB.out)) hb); have n1_ := Aside0.mk (hbox); have n2_ := Aside0.mk ((by rw [hg]; exact (below_size (by repeat (first | (with_reducible first | exact HB.out | apply below_alloc | apply pw_below_drewN | apply below_drew1) | exact HB.out))) : w.heap.size ≤ gb104)); have n3_ := Aside0.mk ((by rw [hg]; exact (below_size (by repeat (first | (with_reducible first | exact HB.out | apply below_alloc | apply pw_below_drewN | apply below_drew1) | exact HB.out))) : w.heap.size ≤ gb104)); clear HB; have HB := n0_; have BK104 := n1_; have GW104 := n2_; have GE104 := n3_; clear n0_ n1_ n2_ n3_; clear hb hbox hg; have hcz10_0 : w9.cell? ⟨gb104, 0, none⟩ = some (.int .i64 0) := (blk_cell BK104.out 0).trans rfl; have hcz10_1 : w9.cell? ⟨gb104, 1, none⟩ = some (.int .i64 0) := (blk_cell BK104.out 1).trans rfl; have hcz10_2 : w9.cell? ⟨gb104, 2, none⟩ = some (.int .u8 0) := (blk_cell BK104.out 2).trans rfl; have hcz10_3 : w9.cell? ⟨gb104, 3, none⟩ = some (.slice none 0 0) := (blk_cell BK104.out 3).trans rfl; have hfz10_0 := blk_frozen BK104.out 0; have hfz10_1 := blk_frozen BK104.out 1; have hfz10_2 := blk_frozen BK104.out 2; have hfz10_3 := blk_frozen BK104.out 3))
                go_ret
                exact ⟨by first | rfl | (simp [errW_none, errW_some] <;> rfl) | (simp [*, errW_none, errW_some] <;> rfl), by repeat (first | (with_reducible first | exact HB.out | apply below_alloc | apply pw_below_drewN | apply below_drew1 | refine below_set ?_ GE104.out) | exact HB.out)⟩
              · rw [if_neg c8] at H
                have c8b0 : decide (200 < (((rd_T36 l0 x7_1).f3).length : Int)) = false := decide_eq_false c8
                have c8b1 : decide (200 < ((rd_T36 l0 x7_1).f3).length) = false := decide_eq_false (by omega)
                clear c8
                have H' := Aside0.mk H
                clear H
                have p103 : 0 ≤ (x7_1 : Int) := of_decide_eq_true (by first | (with_reducible assumption) | assumption)
                have q103 : x7_1 < (l0.length : Int) := of_decide_eq_true (by first | (with_reducible assumption) | assumption)
                obtain ⟨ad103, A103_3, c103_3, e103, hx103_0, hx103_1, hx103_2, hx103_3, hl103_3, hi103_3⟩ := at_T36 HR0.out x7_1 p103 q103
                cases e103
                replace hx103_0 := (HB.out.cell (World.block_lt_of_cell? w _ hx103_0)).trans hx103_0
                replace hx103_1 := (HB.out.cell (World.block_lt_of_cell? w _ hx103_1)).trans hx103_1
                replace hx103_2 := (HB.out.cell (World.block_lt_of_cell? w _ hx103_2)).trans hx103_2
                replace hx103_3 := (HB.out.cell (World.block_lt_of_cell? w _ hx103_3)).trans hx103_3
                have HR103_3 := Aside0.mk hi103_3
                have HC103_3 := Aside0.mk hl103_3
                clear hi103_3 hl103_3
                replace p103 := eq_true p103
                replace q103 := eq_true q103
                go_wp2_with (first | ((with_reducible refine gate_dst (N := 4) rfl ?_); (try (refine gate_guard (by rfl) ?_; dsimp only)); refine box_event ?hg (N := 4) ?hd (cs := #[.int .i64 0, .int .i64 0, .int .u8 0, .slice none 0 0]) (t := 36) ?hr ?_; (case hd => rfl); (case hg => rfl); (case hr => first | (go_simp; done) | (go_simp; rfl)); intro gb104 hg w11 hbox hb; have n0_ := Aside0.mk (below_step (by repeat (first | (with_reducible first | exact HB.out | apply below_alloc | apply pw_below_drewN | apply below_drew1) | exact HB.out)) hb); have n1_ := Aside0.mk (hbox); have n2_ := Aside0.mk ((by rw [hg]; exact (below_size (by repeat (first | (with_reducible first | exact HB.out | apply below_alloc | apply pw_below_drewN | apply below_drew1) | exact HB.out))) : w.heap.size ≤ gb104)); have n3_ := Aside0.mk ((by rw [hg]; exact (below_size (by repeat (first | (with_reducible first | exact HB.out | apply below_alloc | apply pw_below_drewN | apply below_drew1) | exact HB.out))) : w.heap.size ≤ gb104)); clear HB; have HB := n0_; have BK104 := n1_; have GW104 := n2_; have GE104 := n3_; clear n0_ n1_ n2_ n3_; clear hb hbox hg; have hcz12_0 : w11.cell? ⟨gb104, 0, none⟩ = some (.int .i64 0) := (blk_cell BK104.out 0).trans rfl; have hcz12_1 : w11.cell? ⟨gb104, 1, none⟩ = some (.int .i64 0) := (blk_cell BK104.out 1).trans rfl; have hcz12_2 : w11.cell? ⟨gb104, 2, none⟩ = some (.int .u8 0) := (blk_cell BK104.out 2).trans rfl; have hcz12_3 : w11.cell? ⟨gb104, 3, none⟩ = some (.slice none 0 0) := (blk_cell BK104.out 3).trans rfl; have hfz12_0 := blk_frozen BK104.out 0; have hfz12_1 := blk_frozen BK104.out 1; have hfz12_2 := blk_frozen BK104.out 2; have hfz12_3 := blk_frozen BK104.out 3))
                go_roundg k1
                case measure => have := HK1.out; omega
                case rel => exact ⟨(wrap64 (x7_1 + 1)), (by first | rfl | (simp; done) | (simp [*]; done)), H', ⟨by have := HK1.out; omega⟩, ⟨by repeat (first | (with_reducible first | exact HB.out | apply below_alloc | apply pw_below_drewN | apply below_drew1 | refine below_set ?_ GE104.out) | exact HB.out)⟩⟩
          · rw [if_neg c4] at H
            exact absurd H (by simp)
        · rw [if_neg c3] at H
          exact absurd H (by simp)
      · rw [if_neg c2] at H
        have c2b0 : decide (x7_1 < (l0.length : Int)) = false := decide_eq_false c2
        clear c2
        obtain rfl := Option.some.inj H
        go_wp2
        go_ret
        exact ⟨by first | rfl | (simp [errW_none, errW_some] <;> rfl) | (simp [*, errW_none, errW_some] <;> rfl), by repeat (first | (with_reducible first | exact HB.out | apply below_alloc | apply pw_below_drewN | apply below_drew1) | exact HB.out)⟩

/-! ### laminalaw02_full: function 13 -/
/-- Is a script short enough to be played? -/
def laminalaw02_full.LongP (l : List S36) (r : Bool) : Prop := r = false → l.length ≤ 81 ∧ ∀ o ∈ l, o.f3.length ≤ 200
theorem laminalaw02_full.long_some (l : List S36) (hm : l.length ≤ 9223372036854775807) : ∀ (m i : Nat), i + m = l.length → ∃ r, laminalaw02_long.l0 (m + 1) l (l.length : Int) (i : Int) = some r ∧ (r = false → ∀ (j : Nat) (hj : j < l.length), i ≤ j → j ≤ 80 ∧ (l[j]).f3.length ≤ 200)
  | 0, i, h => by
    refine ⟨false, ?_, fun _ j hj hij => by omega⟩
    unfold laminalaw02_long.l0
    rw [if_neg (by omega)]
  | m + 1, i, h => by
    obtain ⟨r, hr, hp⟩ := laminalaw02_full.long_some l hm m (i + 1) (by omega)
    have hi : i < l.length := by omega
    have hrd : rd_T36 l (i : Int) = l[i] := by simp [rd_T36, hi]
    have hw : wrap64 ((i : Int) + 1) = ((i + 1 : Nat) : Int) := by unfold wrap64; omega
    unfold laminalaw02_long.l0
    rw [if_pos (by omega), if_pos (by omega), if_pos (by omega), hrd, hw]
    by_cases h1 : (i : Int) > 80
    · rw [if_pos h1]
      exact ⟨true, rfl, fun h => by cases h⟩
    · rw [if_neg h1]
      by_cases h2 : ((l[i].f3.length : Int)) > 200
      · rw [if_pos h2]
        exact ⟨true, rfl, fun h => by cases h⟩
      · rw [if_neg h2]
        refine ⟨r, hr, fun hf j hj hij => ?_⟩
        by_cases e : j = i
        · subst e; exact ⟨by omega, by omega⟩
        · exact hp hf j hj (by omega)
theorem laminalaw02_full.long_calls (A0 : Option Addr) (c0 : Nat) (l0 : List S36) (w : World) (hr0 : Kd.C k36 w A0 l0.length l0) (hc0 : l0.length ≤ c0) :
    Calls Try.prog 10 #[.slice A0 l0.length c0] w fun e w' => ∃ r, e = .returned (.bool r) ∧ laminalaw02_full.LongP l0 r ∧ Below w.heap.size w w' := by
  obtain ⟨r, hr, hp⟩ := laminalaw02_full.long_some l0 hr0.2.1 l0.length 0 (by omega)
  refine (laminalaw02_long.calls (l0.length + 1) A0 c0 l0 r w hr0 hc0 hr).mono ?_
  rintro e w' ⟨rfl, hb⟩
  refine ⟨r, rfl, fun hf => ⟨?_, fun o ho => ?_⟩, hb⟩
  · rcases Nat.lt_or_ge 81 l0.length with h | h
    · have := (hp hf 81 h (by omega)).1
      omega
    · exact h
  · obtain ⟨j, hj, rfl⟩ := List.getElem_of_mem ho
    exact (hp hf j hj (by omega)).2
def laminalaw02_full.OpsOk (l : List S36) : Prop := ∀ x ∈ l, (Lit.int .i64 x.f0).wf = true ∧ (Lit.int .i64 x.f1).wf = true ∧ (Lit.int .u8 x.f2).wf = true ∧ (x.f3.length * 1 ≤ 140737488351232 ∧ ∀ n ∈ x.f3, True)
theorem laminalaw02_full.ok_at {l : List S36} (h : laminalaw02_full.OpsOk l) (k : Nat) (hk : k < l.length) : (Lit.int .i64 (rd_T36 l k).f0).wf = true ∧ (Lit.int .i64 (rd_T36 l k).f1).wf = true ∧ rd_T36 l k ∈ l := by
  have e : rd_T36 l (k : Int) = l[k] := by simp [rd_T36, hk]
  rw [e]
  have := h l[k] (List.getElem_mem hk)
  exact ⟨this.1, this.2.1, List.getElem_mem hk⟩
/-- An act, as it lies in memory. -/
abbrev laminalaw02_full.opC (x : S36) (A : Option Addr) (c : Nat) : Array Value := #[.int .i64 x.f0, .int .i64 x.f1, .int .u8 x.f2, .slice A x.f3.length c]

/-! ### laminalaw02_alive: function 9 -/
abbrev AlS (w : World) (b : Nat) (d : Dk) (g3 g4 : Nat) (W : World) : Prop :=
  W.rangeAt g3 0 ((fullS 1).map (Value.int .u8)) ∧ W.rangeAt g4 0 ((fullS 3).map (Value.int .u8)) ∧ Cx w.heap.size w W [.own dkR (.pointer (some ⟨b, 0, none⟩)) d]
theorem rangeAt_below {W W' : World} {g o : Nat} {cs : List Value} (h : W.rangeAt g o cs) (hb : Below W.heap.size W W') : W'.rangeAt g o cs := fun j v hv => (hb.cell (p := ⟨g, o + j, none⟩) (World.block_lt_of_cell? W _ (h j v hv))).trans (h j v hv)
theorem AlS.below {w : World} {b : Nat} {d : Dk} {g3 g4 : Nat} {W W' : World} (h : AlS w b d g3 g4 W) (hb : Below W.heap.size W W') : AlS w b d g3 g4 W' := ⟨rangeAt_below h.1 hb, rangeAt_below h.2.1 hb, h.2.2.below hb⟩
theorem AlS.drew {w : World} {b : Nat} {d : Dk} {g3 g4 : Nat} {W : World} (h : AlS w b d g3 g4 W) : AlS w b d g3 g4 W.drew := h.below (below_drew (Below.refl _ _))
theorem AlS.cx {w : World} {b : Nat} {d : Dk} {g3 g4 : Nat} {W : World} (h : AlS w b d g3 g4 W) : Cx w.heap.size w W [.own dkR (.pointer (some ⟨b, 0, none⟩)) d] := h.2.2
theorem AlS.of {w W : World} {b : Nat} {d : Dk} {g3 g4 : Nat} {m r3 r4 : List Asr} (H : Cx w.heap.size w W (.own dkR (.pointer (some ⟨b, 0, none⟩)) d :: m)) (k3 : At m (.blk g3 (.cells (u8A (fullS 1)) 34 (0, 0))) r3) (k4 : At m (.blk g4 (.cells (u8A (fullS 3)) 34 (0, 0))) r4) : AlS w b d g3 g4 W :=
  ⟨fun j v hv => by rw [cell_of (H.tail.blk k3), Nat.zero_add]; simpa [u8A] using hv, fun j v hv => by rw [cell_of (H.tail.blk k4), Nat.zero_add]; simpa [u8A] using hv, H.head At.here⟩
set_option maxRecDepth 100000 in
set_option maxHeartbeats 8000000 in
theorem laminalaw02_alive.calls (w : World) : Calls Try.prog 9 #[] w fun e w' => e = .returned (.bool true) ∧ Below w.heap.size w w' := by
  have hz := dk_zero
  have h26 := Try.underlying26
  have Hc := Cx.start w
  go_enter Try.func9, Try.ntmps9
  go_wp2_with fail
  refine (dk_new 4 Hc (by decide)).mono ?_
  rintro e w1 ⟨b, rfl, H1⟩
  clear Hc
  go_wp2_with fail
  refine (dk_full 1 _).mono ?_
  rintro e w2 ⟨rfl, hb⟩
  have H2 := H1.below hb
  clear H1 hb
  go_wp2_with fail
  refine (dk_write 0 (fullS 1) (by decide) H2 (by repeat (with_reducible (first | exact At.here | apply At.there))) (fullS_len 1) (by decide)).mono ?_
  rintro e w3 ⟨rfl, H3⟩
  clear H2
  rw [show errW ((Dk.new 4).writeE 0) = .nilIface from rfl]
  obtain ⟨d1, hd1⟩ : ∃ d, d = (Dk.new 4).write 0 (fullS 1) := ⟨_, rfl⟩
  rw [← hd1] at H3
  have HD1 := Aside0.mk hd1
  clear hd1
  go_wp2_with fail
  refine (dk_flush (d := d1) (by rw [HD1.out]; decide) H3 (by repeat (with_reducible (first | exact At.here | apply At.there)))).mono ?_
  rintro e w4 ⟨rfl, H4⟩
  clear H3
  rw [show errW d1.offE = .nilIface from by rw [HD1.out]; rfl]
  obtain ⟨d2, hd2⟩ : ∃ d, d = d1.flush := ⟨_, rfl⟩
  rw [← hd2] at H4
  rw [HD1.out] at hd2
  have HD2 := Aside0.mk hd2
  clear hd2
  go_wp2_with fail
  refine (dk_full 2 _).mono ?_
  rintro e w5 ⟨rfl, hb⟩
  have H5 := H4.below hb
  clear H4 hb
  go_wp2_with fail
  refine (dk_write (d := d2) 0 (fullS 2) (by decide) H5 (by repeat (with_reducible (first | exact At.here | apply At.there))) (fullS_len 2) (by rw [HD2.out]; decide)).mono ?_
  rintro e w6 ⟨rfl, H6⟩
  clear H5
  rw [show errW (d2.writeE 0) = .nilIface from by rw [HD2.out]; rfl]
  obtain ⟨d3, hd3⟩ : ∃ d, d = d2.write 0 (fullS 2) := ⟨_, rfl⟩
  rw [← hd3] at H6
  rw [HD2.out] at hd3
  have HD3 := Aside0.mk hd3
  clear hd3
  go_wp2_with fail
  refine (dk_full 3 _).mono ?_
  rintro e w7 ⟨rfl, hb⟩
  have H7 := H6.below hb
  clear H6 hb
  go_wp2_with fail
  refine (dk_write (d := d3) 1 (fullS 3) (by decide) H7 (by repeat (with_reducible (first | exact At.here | apply At.there))) (fullS_len 3) (by rw [HD3.out]; decide)).mono ?_
  rintro e w8 ⟨rfl, H8⟩
  clear H7
  rw [show errW (d3.writeE 1) = .nilIface from by rw [HD3.out]; rfl]
  obtain ⟨d4, hd4⟩ : ∃ d, d = d3.write 1 (fullS 3) := ⟨_, rfl⟩
  rw [← hd4] at H8
  rw [HD3.out] at hd4
  have HD4 := Aside0.mk hd4
  clear hd4
  go_wp2_with fail
  refine (dk_waiting H8 (by repeat (with_reducible (first | exact At.here | apply At.there)))).mono ?_
  rintro e w9 ⟨rfl, rfl⟩
  rw [show d4.waiting.length = 2 from by rw [HD4.out]; rfl]
  go_wp2_with fail
  ((first | apply Cx.genCall | apply Cx.genCode | apply Cx.genList); (focus ((repeat (with_reducible (first | exact (H8).toS | exact At.here | apply At.there | apply CxS.drewN | apply CxS.drew | apply CxS.alloc | apply CxS.set | apply CxS.setRow))))); clear H8; intro w10 H9)
  have H9 := H9.find (a := .own dkR (.pointer (some ⟨b, 0, none⟩)) d4) (by repeat (with_reducible (first | exact At.here | apply At.there)))
  refine (dk_crash (d := d4) _ 2 2 [false, true] (by rw [HD4.out]; decide) H9 (by repeat (with_reducible (first | exact At.here | apply At.there))) (fun W HW => C_block Kd.bool rfl (HW.blk (by repeat (with_reducible (first | exact At.here | apply At.there)))) [false, true] (by decide) (fun j z hj => ?_))).mono ?_
  · rcases j with _ | _ | j
    · simp at hj; subst hj; exact ⟨_, rfl, rfl⟩
    · simp at hj; subst hj; exact ⟨_, rfl, rfl⟩
    · simp at hj
  rintro e w11 ⟨rfl, H10⟩
  have H10 := H10.head (a := .own dkR (.pointer (some ⟨b, 0, none⟩)) (d4.crash [false, true])) (by repeat (with_reducible (first | exact At.here | apply At.there)))
  clear H9
  obtain ⟨d5, hd5⟩ : ∃ d, d = d4.crash [false, true] := ⟨_, rfl⟩
  rw [← hd5] at H10
  rw [HD4.out] at hd5
  have HD5 := Aside0.mk hd5
  clear hd5
  go_wp2_with fail
  refine (dk_read (d := d5) 0 (by decide) H10 (by repeat (with_reducible (first | exact At.here | apply At.there))) (by rw [HD5.out]; decide)).mono ?_
  rintro e w12 ⟨rfl, H11⟩
  clear H10
  rw [show errW (d5.read 0).2 = .nilIface from by rw [HD5.out]; rfl, show (d5.read 0).1 = fullS 1 from by rw [HD5.out]; rfl]
  have F : True := trivial
  go_wp2_with ((((with_reducible refine gate_store (t := 34) (x := .tmp 3) (y := .tmp 48) rfl ?_); (apply Cx.atList); (focus ((repeat (with_reducible (first | exact (H11).toS | exact At.here | apply At.there | apply CxS.drewN | apply CxS.drew | apply CxS.alloc | apply CxS.set | apply CxS.setRow))))); intro HT_; refine wpList_store_row rfl 34 (.tmp 3) (.tmp 48) rfl (w12.heap.size) (u8A (fullS 1)) rfl rfl _ _ (HT_.blk (by repeat (with_reducible (first | exact At.here | apply At.there)))) (dk_isz (fullS_len 1)) (by rw [u8A_size, u8A_size, sz0_len, fullS_len]) (u8A_one _) ?_; clear HT_); clear F; (apply Cx.genList); (focus ((repeat (with_reducible (first | exact (H11).toS | exact At.here | apply At.there | apply CxS.drewN | apply CxS.drew | apply CxS.alloc | apply CxS.set | apply CxS.setRow))))); clear H11; intro w13 H12; have F := (H12).facts; simp only [factsOf, Asr.facts, blkFacts, cellsAre, List.toList_toArray, forall_const, Nat.zero_add, Nat.reduceAdd, and_true, true_and] at F))
  refine (dk_read (d := d5) 1 (by decide) H12 (by repeat (with_reducible (first | exact At.here | apply At.there))) (by rw [HD5.out]; decide)).mono ?_
  rintro e w14 ⟨rfl, H13⟩
  clear H12 F
  rw [show errW (d5.read 1).2 = .nilIface from by rw [HD5.out]; rfl, show (d5.read 1).1 = fullS 3 from by rw [HD5.out]; rfl]
  have F : True := trivial
  go_wp2_with ((((with_reducible refine gate_store (t := 34) (x := .tmp 4) (y := .tmp 53) rfl ?_); (apply Cx.atList); (focus ((repeat (with_reducible (first | exact (H13).toS | exact At.here | apply At.there | apply CxS.drewN | apply CxS.drew | apply CxS.alloc | apply CxS.set | apply CxS.setRow))))); intro HT_; refine wpList_store_row rfl 34 (.tmp 4) (.tmp 53) rfl (w14.heap.size) (u8A (fullS 3)) rfl rfl _ _ (HT_.blk (by repeat (with_reducible (first | exact At.here | apply At.there)))) (dk_isz (fullS_len 3)) (by rw [u8A_size, u8A_size, sz0_len, fullS_len]) (u8A_one _) ?_; clear HT_); clear F; (apply Cx.genList); (focus ((repeat (with_reducible (first | exact (H13).toS | exact At.here | apply At.there | apply CxS.drewN | apply CxS.drew | apply CxS.alloc | apply CxS.set | apply CxS.setRow))))); clear H13; intro w15 H14; have F := (H14).facts; simp only [factsOf, Asr.facts, blkFacts, cellsAre, List.toList_toArray, forall_const, Nat.zero_add, Nat.reduceAdd, and_true, true_and] at F))
  have hst : d5.steps = 4 := by rw [HD5.out]; decide +kernel
  have hu34 := Try.underlying34
  have hi1 : (Try.prog.info? 34).map (·.size) = some ((fullS 1).map (Value.int .u8)).length := by rw [List.length_map, fullS_len]; exact dk_info
  have hi3 : (Try.prog.info? 34).map (·.size) = some ((fullS 3).map (Value.int .u8)).length := by rw [List.length_map, fullS_len]; exact dk_info
  have heq1 : ∀ W, (Op.equalIn 10000 34 (.agg ((fullS 1).map (Value.int .u8)).toArray) (.agg (u8A (fullS 1)))).run Try.prog W = .ok true W := fun W => by have := dk_eql (fullS 1) (fullS 1) (fullS_len 1) (fullS_len 1) W; rwa [decide_eq_true rfl] at this
  have heq3 : ∀ W, (Op.equalIn 10000 34 (.agg ((fullS 3).map (Value.int .u8)).toArray) (.agg (u8A (fullS 3)))).run Try.prog W = .ok true W := fun W => by have := dk_eql (fullS 3) (fullS 3) (fullS_len 3) (fullS_len 3) W; rwa [decide_eq_true rfl] at this
  have hS : AlS w b d5 w12.heap.size w14.heap.size w15 := AlS.of (H14.find (a := .own dkR (.pointer (some ⟨b, 0, none⟩)) d5) (by repeat (with_reducible (first | exact At.here | apply At.there)))) (by repeat (with_reducible (first | exact At.here | apply At.there))) (by repeat (with_reducible (first | exact At.here | apply At.there)))
  clear H14 F
  refine wp_region_held_drew (S := AlS w b d5 w12.heap.size w14.heap.size) (by kernel_rfl) (AlS.drew hS) (fun hH_ => ?_)
  clear hS
  (refine wpAnyH_take (i := 0) (v := ?_) rfl (by kernel_rfl) (by kernel_rfl) (by kernel_rfl) (fun _ _ _ h => h) (Or.inl ⟨by rfl, ?_⟩) hH_ ?_; rotate_left; (focus (intro w_ hSw_; go_simp; try (with_reducible rfl))); simp only [List.getElem_toArray, List.getElem_cons_succ, List.getElem_cons_zero, Act.put, List.setIfInBounds_toArray, List.set_cons_zero, List.set_cons_succ])
  (refine wpAnyH_take (i := 1) (v := ?_) rfl (by kernel_rfl) (by kernel_rfl) (by kernel_rfl) (fun _ _ _ h => h) (Or.inl ⟨by rfl, ?_⟩) hH_ ?_; rotate_left; (focus (intro w_ hSw_; go_simp; try (with_reducible rfl))); simp only [List.getElem_toArray, List.getElem_cons_succ, List.getElem_cons_zero, Act.put, List.setIfInBounds_toArray, List.set_cons_zero, List.set_cons_succ])
  (refine wpAnyH_take (i := 2) (v := ?_) rfl (by kernel_rfl) (by kernel_rfl) (by kernel_rfl) (fun _ _ _ h => h) (Or.inl ⟨by rfl, ?_⟩) hH_ ?_; rotate_left; (focus (intro w_ hSw_; go_simp; try (with_reducible rfl))); simp only [List.getElem_toArray, List.getElem_cons_succ, List.getElem_cons_zero, Act.put, List.setIfInBounds_toArray, List.set_cons_zero, List.set_cons_succ])
  (refine wpAnyH_take (i := 3) (v := ?_) rfl (by kernel_rfl) (by kernel_rfl) (by kernel_rfl) (fun _ _ _ h => h) (Or.inl ⟨by rfl, ?_⟩) hH_ ?_; rotate_left; (focus (intro w_ hSw_; go_simp; try (with_reducible rfl))); simp only [List.getElem_toArray, List.getElem_cons_succ, List.getElem_cons_zero, Act.put, List.setIfInBounds_toArray, List.set_cons_zero, List.set_cons_succ])
  (refine wpAnyH_take (i := 4) (v := ?_) rfl (by kernel_rfl) (by kernel_rfl) (by kernel_rfl) (fun _ _ _ h => h) (Or.inl ⟨by rfl, ?_⟩) hH_ ?_; rotate_left; (focus (intro w_ hSw_; go_simp; try (with_reducible rfl))); simp only [List.getElem_toArray, List.getElem_cons_succ, List.getElem_cons_zero, Act.put, List.setIfInBounds_toArray, List.set_cons_zero, List.set_cons_succ])
  (refine wpAnyH_take (i := 5) (v := ?_) rfl (by kernel_rfl) (by kernel_rfl) (by kernel_rfl) (fun _ _ _ h => h) (Or.inl ⟨by rfl, ?_⟩) hH_ ?_; rotate_left; (focus (intro w_ hSw_; go_simp; try (with_reducible rfl))); simp only [List.getElem_toArray, List.getElem_cons_succ, List.getElem_cons_zero, Act.put, List.setIfInBounds_toArray, List.set_cons_zero, List.set_cons_succ])
  (refine wpAnyH_take (i := 6) (v := ?_) rfl (by kernel_rfl) (by kernel_rfl) (by kernel_rfl) (fun _ _ _ h => h) (Or.inl ⟨by rfl, ?_⟩) hH_ ?_; rotate_left; (focus (intro w_ hSw_; go_simp; try (with_reducible rfl))); simp only [List.getElem_toArray, List.getElem_cons_succ, List.getElem_cons_zero, Act.put, List.setIfInBounds_toArray, List.set_cons_zero, List.set_cons_succ])
  (refine wpAnyH_take (i := 7) rfl (by kernel_rfl) (by kernel_rfl) (by kernel_rfl) (fun _ _ _ h => h) (yieldsIf_load_mid (by rfl) 34 (.tmp 3) rfl (w12.heap.size) (0) rfl ((fullS 1).map (Value.int .u8)) _ (fun _ h => h.1) Try.underlying34 rfl (hi1)) hH_ ?_; simp only [List.getElem_toArray, List.getElem_cons_succ, List.getElem_cons_zero, Act.put, List.setIfInBounds_toArray, List.set_cons_zero, List.set_cons_succ])
  (refine wpAnyH_ready (rs := [8]) (by kernel_rfl) (by simp) ?_; refine AllReadyH.cons rfl (fun K hK => ?_) AllReadyH.nil; go_simp; go_at_call 13; refine (dk_full 1 _).mono ?_; rintro e w' ⟨rfl, hb⟩; (try go_simp); refine hK.out _ _ (AlS.below hH_ hb) (fun hH2_ => ?_); clear hK K hH_; have hH_ := hH2_; clear hH2_; try simp only [List.getElem_toArray, List.getElem_cons_succ, List.getElem_cons_zero, Act.put, List.setIfInBounds_toArray, List.set_cons_zero, List.set_cons_succ])
  (refine wpAnyH_take (i := 9) (v := ?_) rfl (by kernel_rfl) (by kernel_rfl) (by kernel_rfl) (fun _ _ _ h => h) (Or.inl ⟨by rfl, ?_⟩) hH_ ?_; rotate_left; (focus (intro w_ hSw_; go_simp; try (with_reducible rfl))); simp only [List.getElem_toArray, List.getElem_cons_succ, List.getElem_cons_zero, Act.put, List.setIfInBounds_toArray, List.set_cons_zero, List.set_cons_succ])
  (refine wpAnyH_take (i := 10) (v := ?_) rfl (by kernel_rfl) (by kernel_rfl) (by kernel_rfl) (fun _ _ _ h => h) (Or.inl ⟨by rfl, ?_⟩) hH_ ?_; rotate_left; (focus (intro w_ hSw_; go_simp; try (with_reducible rfl))); simp only [List.getElem_toArray, List.getElem_cons_succ, List.getElem_cons_zero, Act.put, List.setIfInBounds_toArray, List.set_cons_zero, List.set_cons_succ])
  (refine wpAnyH_take (i := 11) (v := ?_) rfl (by kernel_rfl) (by kernel_rfl) (by kernel_rfl) (fun _ _ _ h => h) (Or.inl ⟨by rfl, ?_⟩) hH_ ?_; rotate_left; (focus (intro w_ hSw_; go_simp; try (with_reducible rfl))); simp only [List.getElem_toArray, List.getElem_cons_succ, List.getElem_cons_zero, Act.put, List.setIfInBounds_toArray, List.set_cons_zero, List.set_cons_succ])
  (refine wpAnyH_take (i := 12) rfl (by kernel_rfl) (by kernel_rfl) (by kernel_rfl) (fun _ _ _ h => h) (yieldsIf_load_mid (by rfl) 34 (.tmp 4) rfl (w14.heap.size) (0) rfl ((fullS 3).map (Value.int .u8)) _ (fun _ h => h.2.1) Try.underlying34 rfl (hi3)) hH_ ?_; simp only [List.getElem_toArray, List.getElem_cons_succ, List.getElem_cons_zero, Act.put, List.setIfInBounds_toArray, List.set_cons_zero, List.set_cons_succ])
  (refine wpAnyH_ready (rs := [13]) (by kernel_rfl) (by simp) ?_; refine AllReadyH.cons rfl (fun K hK => ?_) AllReadyH.nil; go_simp; go_at_call 13; refine (dk_full 3 _).mono ?_; rintro e w' ⟨rfl, hb⟩; (try go_simp); refine hK.out _ _ (AlS.below hH_ hb) (fun hH2_ => ?_); clear hK K hH_; have hH_ := hH2_; clear hH2_; try simp only [List.getElem_toArray, List.getElem_cons_succ, List.getElem_cons_zero, Act.put, List.setIfInBounds_toArray, List.set_cons_zero, List.set_cons_succ])
  (refine wpAnyH_take (i := 14) (v := ?_) rfl (by kernel_rfl) (by kernel_rfl) (by kernel_rfl) (fun _ _ _ h => h) (Or.inl ⟨by rfl, ?_⟩) hH_ ?_; rotate_left; (focus (intro w_ hSw_; go_simp; try (with_reducible rfl))); simp only [List.getElem_toArray, List.getElem_cons_succ, List.getElem_cons_zero, Act.put, List.setIfInBounds_toArray, List.set_cons_zero, List.set_cons_succ])
  (refine wpAnyH_take (i := 15) (v := ?_) rfl (by kernel_rfl) (by kernel_rfl) (by kernel_rfl) (fun _ _ _ h => h) (Or.inl ⟨by rfl, ?_⟩) hH_ ?_; rotate_left; (focus (intro w_ hSw_; go_simp; try (with_reducible rfl))); simp only [List.getElem_toArray, List.getElem_cons_succ, List.getElem_cons_zero, Act.put, List.setIfInBounds_toArray, List.set_cons_zero, List.set_cons_succ])
  (refine wpAnyH_take (i := 16) (v := ?_) rfl (by kernel_rfl) (by kernel_rfl) (by kernel_rfl) (fun _ _ _ h => h) (Or.inl ⟨by rfl, ?_⟩) hH_ ?_; rotate_left; (focus (intro w_ hSw_; go_simp; try (with_reducible rfl))); simp only [List.getElem_toArray, List.getElem_cons_succ, List.getElem_cons_zero, Act.put, List.setIfInBounds_toArray, List.set_cons_zero, List.set_cons_succ])
  (refine wpAnyH_take (i := 17) (v := ?_) rfl (by kernel_rfl) (by kernel_rfl) (by kernel_rfl) (fun _ _ _ h => h) (Or.inl ⟨by rfl, ?_⟩) hH_ ?_; rotate_left; (focus (intro w_ hSw_; go_simp; try (with_reducible rfl))); simp only [List.getElem_toArray, List.getElem_cons_succ, List.getElem_cons_zero, Act.put, List.setIfInBounds_toArray, List.set_cons_zero, List.set_cons_succ])
  (refine wpAnyH_ready (rs := [18]) (by kernel_rfl) (by simp) ?_; refine AllReadyH.cons rfl (fun K hK => ?_) AllReadyH.nil; go_simp; go_at_call 21; refine (dk_steps (AlS.cx hH_) At.here).mono ?_; rintro e w' ⟨rfl, rfl⟩; (try go_simp); refine hK.out _ _ (hH_) (fun hH2_ => ?_); clear hK K hH_; have hH_ := hH2_; clear hH2_; try simp only [List.getElem_toArray, List.getElem_cons_succ, List.getElem_cons_zero, Act.put, List.setIfInBounds_toArray, List.set_cons_zero, List.set_cons_succ])
  (refine wpAnyH_take (i := 19) (v := ?_) rfl (by kernel_rfl) (by kernel_rfl) (by kernel_rfl) (fun _ _ _ h => h) (Or.inl ⟨by rfl, ?_⟩) hH_ ?_; rotate_left; (focus (intro w_ hSw_; go_simp; try (with_reducible rfl))); simp only [List.getElem_toArray, List.getElem_cons_succ, List.getElem_cons_zero, Act.put, List.setIfInBounds_toArray, List.set_cons_zero, List.set_cons_succ])
  (refine wpAnyH_take (i := 20) (v := ?_) rfl (by kernel_rfl) (by kernel_rfl) (by kernel_rfl) (fun _ _ _ h => h) (Or.inl ⟨by rfl, ?_⟩) hH_ ?_; rotate_left; (focus (intro w_ hSw_; go_simp; try (with_reducible rfl))); simp only [List.getElem_toArray, List.getElem_cons_succ, List.getElem_cons_zero, Act.put, List.setIfInBounds_toArray, List.set_cons_zero, List.set_cons_succ])
  (refine wpAnyH_take (i := 21) (v := ?_) rfl (by kernel_rfl) (by kernel_rfl) (by kernel_rfl) (fun _ _ _ h => h) (Or.inl ⟨by rfl, ?_⟩) hH_ ?_; rotate_left; (focus (intro w_ hSw_; go_simp; try (with_reducible rfl))); simp only [List.getElem_toArray, List.getElem_cons_succ, List.getElem_cons_zero, Act.put, List.setIfInBounds_toArray, List.set_cons_zero, List.set_cons_succ])
  refine wpAnyH_done (by kernel_rfl) ?_ _
  go_wp2
  go_ret
  exact ⟨by first | rfl | trivial, (AlS.cx hH_).bel⟩

/-! ### laminanum_Num: function 38 -/
def laminanum_Num.f (a0 : Option Int) : Option (Int) := if a0.isNone = true then (some 0) else (if (a0.getD 0) = 0 then (some (-1)) else (some (a0.getD 0)))
set_option maxHeartbeats 8000000 in
set_option maxRecDepth 100000 in
theorem laminanum_Num.calls (a0 : Option Int) (r : Int) (w : World) (h : laminanum_Num.f a0 = some r) :
    Calls Try.prog 38 #[errW a0] w fun e w' => e = .returned (.int .i64 r) ∧ Drawn0 w w' := by
  have hu28 := Try.underlying28
  have hu56 := Try.underlying56
  have hta : ∀ (v : Value) (W : World), (Instr.typeAssert (.iface 56 v) 28 56 true).run Try.prog W = .ok (.tuple #[v, .bool true]) W := fun v W => by rfl
  have H : (if a0.isNone = true then (some 0) else (if (a0.getD 0) = 0 then (some (-1)) else (some (a0.getD 0)))) = some r := h
  clear h
  rcases a0 with _ | q101
  · have H1 : (some 0) = some r := by rw [if_pos (show (none : Option Int).isNone = true by rfl)] at H; exact H
    clear H
    have H := H1
    clear H1
    simp only [errW_none, errW_some]
    obtain rfl := Option.some.inj H
    go_enter Try.func38, Try.ntmps38
    go_wp2
    go_ret
    exact ⟨by first | rfl | (simp; done) | (simp [*]; done), by repeat (first | exact Drawn0.refl _ | apply Drawn0.step)⟩
  · have H1 : (if q101 = 0 then (some (-1)) else (some q101)) = some r := by rw [if_neg (show ¬ (some q101).isNone = true by simp)] at H; exact H
    clear H
    have H := H1
    clear H1
    simp only [errW_none, errW_some]
    by_cases c2 : q101 = 0
    · rw [if_pos c2] at H
      have c2b0 : (q101 == 0) = true := beq_iff_eq.mpr c2
      have c2b1 : (q101 != 0) = false := bne_eq_false_iff_eq.mpr c2
      clear c2
      obtain rfl := Option.some.inj H
      go_enter Try.func38, Try.ntmps38
      go_wp2
      go_ret
      exact ⟨by first | rfl | (simp; done) | (simp [*]; done), by repeat (first | exact Drawn0.refl _ | apply Drawn0.step)⟩
    · rw [if_neg c2] at H
      have c2b0 : (q101 == 0) = false := beq_eq_false_iff_ne.mpr c2
      have c2b1 : (q101 != 0) = true := bne_iff_ne.mpr c2
      obtain rfl := Option.some.inj H
      go_enter Try.func38, Try.ntmps38
      go_wp2
      go_ret
      exact ⟨by first | rfl | (simp; done) | (simp [*]; done), by repeat (first | exact Drawn0.refl _ | apply Drawn0.step)⟩

end Go.Proofs.Ytjoledofiindcaa.Hp
