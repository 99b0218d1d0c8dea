/- Contracts of functions of the given program, and what they lean on: written by this session's own program, out of hand texts laid into the kit's printer. -/
import Derived.Test.YtjoledofiindcaaHp0
import Derived.Test.YtjoledofiindcaaHg1
import Derived.Test.YtjoledofiindcaaHg2
namespace Go.Proofs.Ytjoledofiindcaa.Hp
open Go.RowKit Go.Proofs.YtjoledofiindcaaW.PrintWords Go.Proofs.YtjoledofiindcaaW.PrintLast Go.Proofs.YtjoledofiindcaaW.PrintMore
attribute [local go_sem] max2_int min2_int max_two min_two max_three min_three max_four min_four   -- for this text's walks alone
set_option linter.unusedVariables false
set_option linter.unusedSimpArgs false

/-! ### laminalaw02_DiskLast: function 4 -/
/-- The disk of this law: no power is lost. -/
def laminalaw02_DiskLast.Ok (k : Nat) (d : Dk) : Prop := d.gone = false ∧ d.armed = false ∧ d.size = 6 ∧ d.cnt + d.waiting.length ≤ k
set_option maxRecDepth 100000 in
set_option maxHeartbeats 8000000 in
theorem laminalaw02_DiskLast.law (A0 : Option Addr) (c0 : Nat) (l0 : List S36) (w : World) (hr0 : Kd.C k36 w A0 l0.length l0) (hc0 : l0.length ≤ c0) (_hy0 : l0.length * 48 ≤ 140737488351232) (hg : laminalaw02_full.OpsOk l0) :
    Calls Try.prog 4 #[.slice A0 l0.length c0] w fun e w' => e = .returned (.bool true) ∧ Below w.heap.size w w' := by
  have hz := dk_zero
  have hz6 := dk_zero6
  have h26 := Try.underlying26
  have h28 := Try.underlying28
  have hu36 := Try.underlying36
  have H0 := Cx.start w
  have HR0 := Aside0.mk hr0
  have HC0 := Aside0.mk hc0
  have HG := Aside0.mk hg
  clear hr0 hc0 hg
  go_enter Try.func4, Try.ntmps4
  go_wp2_with fail
  refine (laminalaw02_alive.calls w).mono ?_
  rintro e w1 ⟨rfl, hb⟩
  have H1 := H0.below hb
  clear H0 hb
  go_wp2_with fail
  refine (laminalaw02_full.long_calls A0 c0 l0 _ (Kd.C_below HR0.out H1.bel) HC0.out).mono ?_
  rintro e w2 ⟨r, rfl, hp, hb⟩
  have H2 := H1.below hb
  clear H1 hb
  cases r
  case true =>
    go_wp2
    ((try simp only [Exit.inBlock, Exit.then]); (apply Cx.atPost); (focus ((repeat (with_reducible (first | exact (H2).toS | exact At.here | apply At.there | apply CxS.drewN | apply CxS.drew | apply CxS.alloc | apply CxS.set | apply CxS.setRow))))); intro H3)
    go_ret
    exact ⟨by first | rfl | trivial, H3.bel⟩
  have hlen := (hp rfl).1
  clear hp
  go_wp2_with fail
  refine (dk_new 6 H2 (by decide)).mono ?_
  rintro e w3 ⟨b, rfl, H3⟩
  clear H2
  have F : True := trivial
  have hv0 : (Dk.new 6).view = fun _ => sz0 := by funext i; rfl
  go_wp2_with ((((with_reducible refine gate_store (t := 46) (x := .tmp 5) (y := .tmp 22) rfl ?_); (apply Cx.atList); (focus ((repeat (with_reducible (first | exact (H3).toS | exact At.here | apply At.there | apply CxS.drewN | apply CxS.drew | apply CxS.alloc | apply CxS.set | apply CxS.setRow))))); intro HT_; refine wpList_store_row rfl 46 (.tmp 5) (.tmp 22) rfl (w3.heap.size) (u8A (flat6 fun _ => sz0)) rfl rfl _ _ (HT_.blk (by repeat (with_reducible (first | exact At.here | apply At.there)))) (by rw [u8A_size, flat6_len (fun _ => sz0_len)]; exact dk_info6) (rfl) (u8A_one _) ?_; clear HT_); clear F; (apply Cx.genList); (focus ((repeat (with_reducible (first | exact (H3).toS | exact At.here | apply At.there | apply CxS.drewN | apply CxS.drew | apply CxS.alloc | apply CxS.set | apply CxS.setRow))))); clear H3; intro w4 H4; have F := (H4).facts; simp only [factsOf, Asr.facts, blkFacts, cellsAre, List.toList_toArray, forall_const, Nat.zero_add, Nat.reduceAdd, and_true, true_and] at F))
  clear F
  rw [← hv0] at H4
  generalize w3.heap.size = g at *
  go_loopw [25] (fun v25 wr => ∃ (k : Nat) (d : Dk), k ≤ l0.length ∧ v25 = .int .i64 k ∧ Aside0 (laminalaw02_DiskLast.Ok k d) ∧ Cx w.heap.size w wr [.blk g (.cells (u8A (flat6 d.view)) 46 (0, 0)), .own dkR (.pointer (some ⟨b, 0, none⟩)) d]) (fun v25 _ => l0.length - (intOf v25).toNat)
  case atStart => exact ⟨0, Dk.new 6, by omega, rfl, ⟨rfl, rfl, rfl, Nat.le_refl _⟩, H4⟩
  case round =>
    clear H4 hv0
    obtain ⟨k, d, hk, rfl, HOK, H5⟩ := hrel
    by_cases hlt : k < l0.length
    · have h0 : (0 : Int) ≤ (k : Int) := by omega
      have h1 : (k : Int) < (l0.length : Int) := by omega
      obtain ⟨ad, A3, c3, rfl, t0, t1, t2, t3, hl3, g3⟩ := at_T36 HR0.out (k : Int) h0 h1
      obtain ⟨hf0, hf1, hmem⟩ := laminalaw02_full.ok_at HG.out k hlt
      replace t0 := (H5.bel.cell (World.block_lt_of_cell? w _ t0)).trans t0
      replace t1 := (H5.bel.cell (World.block_lt_of_cell? w _ t1)).trans t1
      replace t2 := (H5.bel.cell (World.block_lt_of_cell? w _ t2)).trans t2
      replace t3 := (H5.bel.cell (World.block_lt_of_cell? w _ t3)).trans t3
      simp only [Int.toNat_natCast] at t0 t1 t2 t3
      obtain ⟨x, hx⟩ : ∃ x, x = rd_T36 l0 (k : Int) := ⟨_, rfl⟩
      rw [← hx] at t0 t1 t2 t3 hf0 hf1
      have HF0 := Aside0.mk hf0
      have HF1 := Aside0.mk hf1
      clear hx hmem hl3 g3 hf0 hf1
      have hof : d.off = false := Dk.off_no HOK.out.1 HOK.out.2.1
      have HOF := Aside0.mk hof
      clear hof
      have HVL0 : Aside0 (∀ i, (d.view i).length = 128) := ⟨Dk.view_len H5 (d := d) (by repeat (with_reducible (first | exact At.here | apply At.there)))⟩
      by_cases hk2 : x.f0 = 2
      · · have hkb : (x.f0 == 2) = true := by simp [hk2]
          have hkb1 : (x.f0 == 1) = false := by simp [hk2]
          clear hk2
          go_wp2_with fail
          ((first | apply Cx.genCall | apply Cx.genCode | apply Cx.genList); (focus ((repeat (with_reducible (first | exact (H5).toS | exact At.here | apply At.there | apply CxS.drewN | apply CxS.drew | apply CxS.alloc | apply CxS.set | apply CxS.setRow))))); clear H5; intro w6 H6)
          try simp only [List.setIfInBounds_toArray, List.set_cons_zero, List.set_cons_succ] at H6
          clear t0 t1 t2 t3
          obtain ⟨w8, hw8⟩ : ∃ w8, w8 = wr.heap.size := ⟨_, rfl⟩
          rw [← hw8] at H6 ⊢
          clear hw8
          refine (dk_flush (d := d) (by have := HOK.out.2.2.2; omega) H6 (by repeat (with_reducible (first | exact At.here | apply At.there)))).mono ?_
          rintro e w7 ⟨rfl, H7⟩
          clear H6
          obtain ⟨q1, q2, q3, q4, q5⟩ := Dk.flush_rest HOF.out
          have HFV : Aside0 (∀ i, d.flush.view i = d.view i ∧ d.flush.sure i = d.view i) := ⟨Dk.flush_view HOF.out⟩
          have hvw : d.view = d.flush.view := by funext i; exact (HFV.out i).1.symm
          rw [hvw] at H7
          rw [show d.offE = none from by simp [Dk.offE, HOF.out], errW_none]
          obtain ⟨d2, hd2⟩ : ∃ d2, d2 = d.flush := ⟨_, rfl⟩
          rw [← hd2] at H7 q1 q2 q3 q4 q5
          have HFV2 : Aside0 (∀ i, d2.sure i = d2.view i) := ⟨fun i => by rw [hd2, (HFV.out i).1, (HFV.out i).2]⟩
          have HOK2 : Aside0 (laminalaw02_DiskLast.Ok (k + 1) d2) := ⟨q1.trans HOK.out.1, q2.trans HOK.out.2.1, q3.trans HOK.out.2.2.1, by rw [q4, q5]; have := HOK.out.2.2.2; simp only [List.length_nil]; omega⟩
          clear q1 q2 q3 q4 q5 hvw hd2 HFV
          go_wp2_with fail
          go_loopw [35] (fun v35 wr => ∃ j : Nat, j ≤ 6 ∧ v35 = .int .i64 j ∧ Cx w.heap.size w wr [.own dkR (.pointer (some ⟨b, 0, none⟩)) d2, .blk w8 (.cells (laminalaw02_full.opC x A3 c3) 36 (0, 0)), .blk g (.cells (u8A (flat6 d2.view)) 46 (0, 0))]) (fun v35 _ => 6 - (intOf v35).toNat)
          case atStart => exact ⟨0, by omega, rfl, H7⟩
          case round =>
            clear H7
            obtain ⟨j, hj, rfl, HL⟩ := hrel
            by_cases hjl : j < 6
            · have hj0 : (0 : Int) ≤ (j : Int) := by omega
              have hj1 : (j : Int) < 6 := by omega
              have hvl := Dk.view_len HL (d := d2) (by repeat (with_reducible (first | exact At.here | apply At.there)))
              have HVL := Aside0.mk hvl
              clear hvl
              have heq : ∀ W, (Op.equalIn 10000 34 (.agg (u8A (d2.view (j : Int)))) (.agg ((d2.view (j : Int)).map (Value.int .u8)).toArray)).run Try.prog W = .ok true W := fun W => by have := dk_eql _ _ (HVL.out (j : Int)) (HVL.out (j : Int)) W; rwa [decide_eq_true rfl] at this
              have hi1 : (Try.prog.info? 34).map (·.size) = some ((d2.view (j : Int)).map (Value.int .u8)).length := by rw [List.length_map, HVL.out]; exact dk_info
              go_wp2_with fail
              refine wp_region_held_drew (S := fun W => Cx w.heap.size w W [.own dkR (.pointer (some ⟨b, 0, none⟩)) d2, .blk w8 (.cells (laminalaw02_full.opC x A3 c3) 36 (0, 0)), .blk g (.cells (u8A (flat6 d2.view)) 46 (0, 0))]) (by kernel_rfl) ((HL.toS.drew).cx) (fun hH_ => ?_)
              clear HL
              (refine wpAnyH_take (i := 0) (v := ?_) rfl (by kernel_rfl) (by kernel_rfl) (by kernel_rfl) (fun _ _ _ h => h) (Or.inl ⟨by rfl, ?_⟩) hH_ ?_; rotate_left; (focus (intro w_ hSw_; go_simp; try (with_reducible rfl))); simp only [List.getElem_toArray, List.getElem_cons_succ, List.getElem_cons_zero, Act.put, List.setIfInBounds_toArray, List.set_cons_zero, List.set_cons_succ])
              (refine wpAnyH_take (i := 1) (v := ?_) rfl (by kernel_rfl) (by kernel_rfl) (by kernel_rfl) (fun _ _ _ h => h) (Or.inl ⟨by rfl, ?_⟩) hH_ ?_; rotate_left; (focus (intro w_ hSw_; go_simp; try (with_reducible rfl))); simp only [List.getElem_toArray, List.getElem_cons_succ, List.getElem_cons_zero, Act.put, List.setIfInBounds_toArray, List.set_cons_zero, List.set_cons_succ])
              (refine wpAnyH_take (i := 3) (v := ?_) rfl (by kernel_rfl) (by kernel_rfl) (by kernel_rfl) (fun _ _ _ h => h) (Or.inl ⟨by rfl, ?_⟩) hH_ ?_; rotate_left; (focus (intro w_ hSw_; go_simp; try (with_reducible rfl))); simp only [List.getElem_toArray, List.getElem_cons_succ, List.getElem_cons_zero, Act.put, List.setIfInBounds_toArray, List.set_cons_zero, List.set_cons_succ])
              (refine wpAnyH_take (i := 4) (v := ?_) rfl (by kernel_rfl) (by kernel_rfl) (by kernel_rfl) (fun _ _ _ h => h) (Or.inl ⟨by rfl, ?_⟩) hH_ ?_; rotate_left; (focus (intro w_ hSw_; go_simp; try (with_reducible rfl))); simp only [List.getElem_toArray, List.getElem_cons_succ, List.getElem_cons_zero, Act.put, List.setIfInBounds_toArray, List.set_cons_zero, List.set_cons_succ])
              (refine wpAnyH_take (i := 5) rfl (by kernel_rfl) (by kernel_rfl) (by kernel_rfl) (fun _ _ _ h => h) (yieldsIf_load_mid (by rfl) 34 (.tmp 42) rfl (g) (j * 128) rfl ((d2.view (j : Int)).map (Value.int .u8)) _ (fun W h => h.six (At.there (At.there At.here)) HVL.out j hjl) Try.underlying34 rfl (hi1)) hH_ ?_; simp only [List.getElem_toArray, List.getElem_cons_succ, List.getElem_cons_zero, Act.put, List.setIfInBounds_toArray, List.set_cons_zero, List.set_cons_succ])
              (refine wpAnyH_ready (rs := [2]) (by kernel_rfl) (by simp) ?_; refine AllReadyH.cons rfl (fun K hK => ?_) AllReadyH.nil; go_simp; go_at_call 17; refine (dk_sure (d := d2) (j : Int) (by simp [Lit.wf, IntKind.min, IntKind.max, IntKind.signed, IntKind.bits]; omega) hH_ At.here).mono ?_; rintro e w' ⟨rfl, HS⟩; rw [HFV2.out]; (try go_simp); refine hK.out _ _ (HS) (fun hH2_ => ?_); clear hK K hH_; have hH_ := hH2_; clear hH2_; try simp only [List.getElem_toArray, List.getElem_cons_succ, List.getElem_cons_zero, Act.put, List.setIfInBounds_toArray, List.set_cons_zero, List.set_cons_succ])
              (refine wpAnyH_take (i := 6) (v := ?_) rfl (by kernel_rfl) (by kernel_rfl) (by kernel_rfl) (fun _ _ _ h => h) (Or.inl ⟨by rfl, ?_⟩) hH_ ?_; rotate_left; (focus (intro w_ hSw_; go_simp; try (with_reducible rfl))); simp only [List.getElem_toArray, List.getElem_cons_succ, List.getElem_cons_zero, Act.put, List.setIfInBounds_toArray, List.set_cons_zero, List.set_cons_succ])
              refine wpAnyH_done (by kernel_rfl) ?_ _
              go_wp2
              exact ⟨⟨j + 1, by omega, by go_num, hH_⟩, by simp [intOf]; omega⟩
            · obtain rfl : j = 6 := by omega
              rw [show ((6 : Nat) : Int) = 6 from rfl]
              go_wp2_with fail
              refine wp_region_held_drew (S := fun W => Cx w.heap.size w W [.blk w8 (.cells (laminalaw02_full.opC x A3 c3) 36 (0, 0)), .blk g (.cells (u8A (flat6 d2.view)) 46 (0, 0)), .own dkR (.pointer (some ⟨b, 0, none⟩)) d2]) (by kernel_rfl) (((HL.toS.drew).cx.find (At.there At.here)).find (At.there (At.there At.here)) |>.find (At.there At.here)) (fun hH_ => ?_)
              clear HL
              (refine wpAnyH_take (i := 0) (v := ?_) rfl (by kernel_rfl) (by kernel_rfl) (by kernel_rfl) (fun _ _ _ h => h) (Or.inl ⟨by rfl, ?_⟩) hH_ ?_; rotate_left; (focus (intro w_ hSw_; go_simp; try (with_reducible rfl))); simp only [List.getElem_toArray, List.getElem_cons_succ, List.getElem_cons_zero, Act.put, List.setIfInBounds_toArray, List.set_cons_zero, List.set_cons_succ])
              (refine wpAnyH_take (i := 1) rfl (by kernel_rfl) (by kernel_rfl) (by kernel_rfl) (fun _ _ _ h => h) (yieldsIf_load_cell (by rfl) 3 (.tmp 46) rfl (w8) (0) rfl (.int .i64 x.f0) (run_isAgg_plain Try.underlying3 rfl) (fun W h => (cell_of (h.blk At.here) 0).trans rfl)) hH_ ?_; simp only [List.getElem_toArray, List.getElem_cons_succ, List.getElem_cons_zero, Act.put, List.setIfInBounds_toArray, List.set_cons_zero, List.set_cons_succ])
              (refine wpAnyH_take (i := 2) (v := ?_) rfl (by kernel_rfl) (by kernel_rfl) (by kernel_rfl) (fun _ _ _ h => h) (Or.inl ⟨by rfl, ?_⟩) hH_ ?_; rotate_left; (focus (intro w_ hSw_; go_simp; try (with_reducible rfl))); simp only [List.getElem_toArray, List.getElem_cons_succ, List.getElem_cons_zero, Act.put, List.setIfInBounds_toArray, List.set_cons_zero, List.set_cons_succ])
              (refine wpAnyH_take (i := 3) (v := ?_) rfl (by kernel_rfl) (by kernel_rfl) (by kernel_rfl) (fun _ _ _ h => h) (Or.inl ⟨by rfl, ?_⟩) hH_ ?_; rotate_left; (focus (intro w_ hSw_; go_simp; try (with_reducible rfl))); simp only [List.getElem_toArray, List.getElem_cons_succ, List.getElem_cons_zero, Act.put, List.setIfInBounds_toArray, List.set_cons_zero, List.set_cons_succ])
              (refine wpAnyH_take (i := 4) (v := undef) rfl (by kernel_rfl) (by kernel_rfl) (by kernel_rfl) (fun _ _ _ h => h) (Or.inr ⟨by rfl, rfl⟩) hH_ ?_; simp only [List.getElem_toArray, List.getElem_cons_succ, List.getElem_cons_zero, Act.put, List.setIfInBounds_toArray, List.set_cons_zero, List.set_cons_succ])
              (refine wpAnyH_take (i := 5) (v := undef) rfl (by kernel_rfl) (by kernel_rfl) (by kernel_rfl) (fun _ _ _ h => h) (Or.inr ⟨by rfl, rfl⟩) hH_ ?_; simp only [List.getElem_toArray, List.getElem_cons_succ, List.getElem_cons_zero, Act.put, List.setIfInBounds_toArray, List.set_cons_zero, List.set_cons_succ])
              (refine wpAnyH_take (i := 6) (v := undef) rfl (by kernel_rfl) (by kernel_rfl) (by kernel_rfl) (fun _ _ _ h => h) (Or.inr ⟨by rfl, rfl⟩) hH_ ?_; simp only [List.getElem_toArray, List.getElem_cons_succ, List.getElem_cons_zero, Act.put, List.setIfInBounds_toArray, List.set_cons_zero, List.set_cons_succ])
              (refine wpAnyH_take (i := 7) (v := undef) rfl (by kernel_rfl) (by kernel_rfl) (by kernel_rfl) (fun _ _ _ h => h) (Or.inr ⟨by rfl, rfl⟩) hH_ ?_; simp only [List.getElem_toArray, List.getElem_cons_succ, List.getElem_cons_zero, Act.put, List.setIfInBounds_toArray, List.set_cons_zero, List.set_cons_succ])
              (refine wpAnyH_take (i := 8) (v := undef) rfl (by kernel_rfl) (by kernel_rfl) (by kernel_rfl) (fun _ _ _ h => h) (Or.inr ⟨by rfl, rfl⟩) hH_ ?_; simp only [List.getElem_toArray, List.getElem_cons_succ, List.getElem_cons_zero, Act.put, List.setIfInBounds_toArray, List.set_cons_zero, List.set_cons_succ])
              (refine wpAnyH_take (i := 9) (v := undef) rfl (by kernel_rfl) (by kernel_rfl) (by kernel_rfl) (fun _ _ _ h => h) (Or.inr ⟨by rfl, rfl⟩) hH_ ?_; simp only [List.getElem_toArray, List.getElem_cons_succ, List.getElem_cons_zero, Act.put, List.setIfInBounds_toArray, List.set_cons_zero, List.set_cons_succ])
              (refine wpAnyH_take (i := 10) (v := undef) rfl (by kernel_rfl) (by kernel_rfl) (by kernel_rfl) (fun _ _ _ h => h) (Or.inr ⟨by rfl, rfl⟩) hH_ ?_; simp only [List.getElem_toArray, List.getElem_cons_succ, List.getElem_cons_zero, Act.put, List.setIfInBounds_toArray, List.set_cons_zero, List.set_cons_succ])
              (refine wpAnyH_take (i := 11) (v := undef) rfl (by kernel_rfl) (by kernel_rfl) (by kernel_rfl) (fun _ _ _ h => h) (Or.inr ⟨by rfl, rfl⟩) hH_ ?_; simp only [List.getElem_toArray, List.getElem_cons_succ, List.getElem_cons_zero, Act.put, List.setIfInBounds_toArray, List.set_cons_zero, List.set_cons_succ])
              (refine wpAnyH_take (i := 12) (v := ?_) rfl (by kernel_rfl) (by kernel_rfl) (by kernel_rfl) (fun _ _ _ h => h) (Or.inl ⟨by rfl, ?_⟩) hH_ ?_; rotate_left; (focus (intro w_ hSw_; go_simp; try (with_reducible rfl))); simp only [List.getElem_toArray, List.getElem_cons_succ, List.getElem_cons_zero, Act.put, List.setIfInBounds_toArray, List.set_cons_zero, List.set_cons_succ])
              refine wpAnyH_done (by kernel_rfl) ?_ _
              have H7 := hH_.tail
              clear hH_ hkb hkb1
              go_wp2_with fail; go_loopw [73] (fun v73 wr => ∃ j : Nat, j ≤ 6 ∧ v73 = .int .i64 j ∧ Cx w.heap.size w wr [.blk g (.cells (u8A (flat6 (d2).view)) 46 (0, 0)), .own dkR (.pointer (some ⟨b, 0, none⟩)) (d2)]) (fun v73 _ => 6 - (intOf v73).toNat)
              case atStart => exact ⟨0, by omega, rfl, H7⟩
              case round =>
                clear H7
                obtain ⟨j, hj, rfl, HL⟩ := hrel
                by_cases hjl : j < 6
                · have hj0 : (0 : Int) ≤ (j : Int) := by omega
                  have hj1 : (j : Int) < 6 := by omega
                  have hrv : (d2).read (j : Int) = ((d2).view (j : Int), none) := Dk.read_view (HOK2).out.1 (by unfold Dk.has; rw [(HOK2).out.2.2.1]; exact decide_eq_true ⟨hj0, hj1⟩)
                  have hvl := Dk.view_len HL (d := d2) (by repeat (with_reducible (first | exact At.here | apply At.there)))
                  have HVL := Aside0.mk hvl
                  have HRV := Aside0.mk hrv
                  clear hvl hrv
                  go_wp2_with fail
                  refine (dk_read (d := d2) (j : Int) (by simp [Lit.wf, IntKind.min, IntKind.max, IntKind.signed, IntKind.bits]; omega) HL (by repeat (with_reducible (first | exact At.here | apply At.there))) (by have := (HOK2).out.2.2.2; omega)).mono ?_
                  rintro e w20 ⟨rfl, H20⟩
                  clear HL
                  rw [HRV.out, errW_none]
                  have F : True := trivial
                  go_wp2_with ((((with_reducible refine gate_store (t := 34) (x := .tmp 10) (y := .tmp 80) rfl ?_); (apply Cx.atList); (focus ((repeat (with_reducible (first | exact (H20).toS | exact At.here | apply At.there | apply CxS.drewN | apply CxS.drew | apply CxS.alloc | apply CxS.set | apply CxS.setRow))))); intro HT_; refine wpList_store_row rfl 34 (.tmp 10) (.tmp 80) rfl (w20.heap.size) (u8A ((d2).view (j : Int))) rfl rfl _ _ (HT_.blk (by repeat (with_reducible (first | exact At.here | apply At.there)))) (dk_isz (HVL.out _)) (by rw [u8A_size, u8A_size, sz0_len, HVL.out]) (u8A_one _) ?_; clear HT_); clear F; (apply Cx.genList); (focus ((repeat (with_reducible (first | exact (H20).toS | exact At.here | apply At.there | apply CxS.drewN | apply CxS.drew | apply CxS.alloc | apply CxS.set | apply CxS.setRow))))); clear H20; intro w21 H21; have F := (H21).facts; simp only [factsOf, Asr.facts, blkFacts, cellsAre, List.toList_toArray, forall_const, Nat.zero_add, Nat.reduceAdd, and_true, true_and] at F))
                  clear F
                  have heq : ∀ W, (Op.equalIn 10000 34 (.agg (((d2).view (j : Int)).map (Value.int .u8)).toArray) (.agg (((d2).view (j : Int)).map (Value.int .u8)).toArray)).run Try.prog W = .ok true W := fun W => by have := dk_eql _ _ (HVL.out (j : Int)) (HVL.out (j : Int)) W; rwa [decide_eq_true rfl] at this
                  have hi1 : (Try.prog.info? 34).map (·.size) = some (((d2).view (j : Int)).map (Value.int .u8)).length := by rw [List.length_map, HVL.out]; exact dk_info
                  refine wp_region_held_drew (S := fun W => Cx w.heap.size w W [.blk w20.heap.size (.cells (u8A ((d2).view (j : Int))) 34 (0, 0)), .blk g (.cells (u8A (flat6 (d2).view)) 46 (0, 0)), .own dkR (.pointer (some ⟨b, 0, none⟩)) (d2)]) (by kernel_rfl) ((H21.toS.drew).cx) (fun hH_ => ?_)
                  clear H21
                  (refine wpAnyH_take (i := 0) (v := ?_) rfl (by kernel_rfl) (by kernel_rfl) (by kernel_rfl) (fun _ _ _ h => h) (Or.inl ⟨by rfl, ?_⟩) hH_ ?_; rotate_left; (focus (intro w_ hSw_; go_simp; try (with_reducible rfl))); simp only [List.getElem_toArray, List.getElem_cons_succ, List.getElem_cons_zero, Act.put, List.setIfInBounds_toArray, List.set_cons_zero, List.set_cons_succ])
                  (refine wpAnyH_take (i := 1) (v := ?_) rfl (by kernel_rfl) (by kernel_rfl) (by kernel_rfl) (fun _ _ _ h => h) (Or.inl ⟨by rfl, ?_⟩) hH_ ?_; rotate_left; (focus (intro w_ hSw_; go_simp; try (with_reducible rfl))); simp only [List.getElem_toArray, List.getElem_cons_succ, List.getElem_cons_zero, Act.put, List.setIfInBounds_toArray, List.set_cons_zero, List.set_cons_succ])
                  (refine wpAnyH_take (i := 2) (v := ?_) rfl (by kernel_rfl) (by kernel_rfl) (by kernel_rfl) (fun _ _ _ h => h) (Or.inl ⟨by rfl, ?_⟩) hH_ ?_; rotate_left; (focus (intro w_ hSw_; go_simp; try (with_reducible rfl))); simp only [List.getElem_toArray, List.getElem_cons_succ, List.getElem_cons_zero, Act.put, List.setIfInBounds_toArray, List.set_cons_zero, List.set_cons_succ])
                  (refine wpAnyH_take (i := 3) rfl (by kernel_rfl) (by kernel_rfl) (by kernel_rfl) (fun _ _ _ h => h) (yieldsIf_load_mid (by rfl) 34 (.tmp 10) rfl (w20.heap.size) (0) rfl (((d2).view (j : Int)).map (Value.int .u8)) _ (fun W h => rangeAt_u8A (h.blk At.here)) Try.underlying34 rfl (hi1)) hH_ ?_; simp only [List.getElem_toArray, List.getElem_cons_succ, List.getElem_cons_zero, Act.put, List.setIfInBounds_toArray, List.set_cons_zero, List.set_cons_succ])
                  (refine wpAnyH_take (i := 4) (v := ?_) rfl (by kernel_rfl) (by kernel_rfl) (by kernel_rfl) (fun _ _ _ h => h) (Or.inl ⟨by rfl, ?_⟩) hH_ ?_; rotate_left; (focus (intro w_ hSw_; go_simp; try (with_reducible rfl))); simp only [List.getElem_toArray, List.getElem_cons_succ, List.getElem_cons_zero, Act.put, List.setIfInBounds_toArray, List.set_cons_zero, List.set_cons_succ])
                  (refine wpAnyH_take (i := 5) (v := ?_) rfl (by kernel_rfl) (by kernel_rfl) (by kernel_rfl) (fun _ _ _ h => h) (Or.inl ⟨by rfl, ?_⟩) hH_ ?_; rotate_left; (focus (intro w_ hSw_; go_simp; try (with_reducible rfl))); simp only [List.getElem_toArray, List.getElem_cons_succ, List.getElem_cons_zero, Act.put, List.setIfInBounds_toArray, List.set_cons_zero, List.set_cons_succ])
                  (refine wpAnyH_take (i := 6) rfl (by kernel_rfl) (by kernel_rfl) (by kernel_rfl) (fun _ _ _ h => h) (yieldsIf_load_mid (by rfl) 34 (.tmp 87) rfl (g) (j * 128) rfl (((d2).view (j : Int)).map (Value.int .u8)) _ (fun W h => h.six (At.there At.here) HVL.out j hjl) Try.underlying34 rfl (hi1)) hH_ ?_; simp only [List.getElem_toArray, List.getElem_cons_succ, List.getElem_cons_zero, Act.put, List.setIfInBounds_toArray, List.set_cons_zero, List.set_cons_succ])
                  (refine wpAnyH_take (i := 7) (v := ?_) rfl (by kernel_rfl) (by kernel_rfl) (by kernel_rfl) (fun _ _ _ h => h) (Or.inl ⟨by rfl, ?_⟩) hH_ ?_; rotate_left; (focus (intro w_ hSw_; go_simp; try (with_reducible rfl))); simp only [List.getElem_toArray, List.getElem_cons_succ, List.getElem_cons_zero, Act.put, List.setIfInBounds_toArray, List.set_cons_zero, List.set_cons_succ])
                  (refine wpAnyH_take (i := 8) (v := ?_) rfl (by kernel_rfl) (by kernel_rfl) (by kernel_rfl) (fun _ _ _ h => h) (Or.inl ⟨by rfl, ?_⟩) hH_ ?_; rotate_left; (focus (intro w_ hSw_; go_simp; try (with_reducible rfl))); simp only [List.getElem_toArray, List.getElem_cons_succ, List.getElem_cons_zero, Act.put, List.setIfInBounds_toArray, List.set_cons_zero, List.set_cons_succ])
                  refine wpAnyH_done (by kernel_rfl) ?_ _
                  go_wp2
                  exact ⟨⟨j + 1, by omega, by go_num, hH_.tail⟩, by simp [intOf]; omega⟩
                · obtain rfl : j = 6 := by omega
                  go_wp2
                  exact ⟨⟨k + 1, d2, by omega, by go_num, HOK2, HL⟩, by simp [intOf]; omega⟩
      · have hkc : (x.f0 == 2) = false := by simp [hk2]
        by_cases hk1 : x.f0 = 1
        · obtain ⟨f0, f1, f2, f3⟩ := x
          dsimp only at t0 t1 t2 t3 HF0 HF1 hk1 hkc hk2
          have hkb1 : (f0 == 1) = true := by simp [hk1]
          clear hk1 hk2
          by_cases hh : d.has f1 = true
          · have hh2 : 0 ≤ f1 ∧ f1 < d.size := of_decide_eq_true hh
            rw [HOK.out.2.2.1] at hh2
            obtain ⟨n, rfl⟩ : ∃ n : Nat, f1 = (n : Int) := ⟨f1.toNat, by omega⟩
            have hn6 : n < 6 := by omega
            have hn0 : (0 : Int) ≤ (n : Int) := by omega
            have hn1 : (n : Int) < 6 := by omega
            have HH := Aside0.mk hh
            clear hh hh2
            have HWE : Aside0 (errW (d.writeE (n : Int)) = .nilIface) := ⟨by simp [Dk.writeE, HH.out, HOF.out, errW]⟩
            go_wp2_with fail
            ((first | apply Cx.genCall | apply Cx.genCode | apply Cx.genList); (focus ((repeat (with_reducible (first | exact (H5).toS | exact At.here | apply At.there | apply CxS.drewN | apply CxS.drew | apply CxS.alloc | apply CxS.set | apply CxS.setRow))))); clear H5; intro w6 H6)
            try simp only [List.setIfInBounds_toArray, List.set_cons_zero, List.set_cons_succ] at H6
            clear t0 t1 t2 t3
            obtain ⟨w8, hw8⟩ : ∃ w8, w8 = wr.heap.size := ⟨_, rfl⟩
            rw [← hw8] at H6 ⊢
            clear hw8
            have Hx0 := (H6.toS.drew).cx
            refine wp_region_held_drew (S := fun W => W.heap[w8]? = some (.cells #[.int .i64 f0, .int .i64 (n : Int), .int .u8 f2, .slice A3 f3.length c3] 36 (0, 0))) (by kernel_rfl) (Hx0.blk At.here) (fun hH_ => ?_)
            (refine wpAnyH_take (i := 0) (v := ?_) rfl (by kernel_rfl) (by kernel_rfl) (by kernel_rfl) (fun _ _ _ h => h) (Or.inl ⟨by rfl, ?_⟩) hH_ ?_; rotate_left; (focus (intro w_ hSw_; go_simp; try (with_reducible rfl))); simp only [List.getElem_toArray, List.getElem_cons_succ, List.getElem_cons_zero, Act.put, List.setIfInBounds_toArray, List.set_cons_zero, List.set_cons_succ])
            (refine wpAnyH_take (i := 1) rfl (by kernel_rfl) (by kernel_rfl) (by kernel_rfl) (fun _ _ _ h => h) (yieldsIf_load_cell (by rfl) 3 (.tmp 46) rfl (w8) (0) rfl (.int .i64 f0) (run_isAgg_plain Try.underlying3 rfl) (fun W h => (cell_of h 0).trans rfl)) hH_ ?_; simp only [List.getElem_toArray, List.getElem_cons_succ, List.getElem_cons_zero, Act.put, List.setIfInBounds_toArray, List.set_cons_zero, List.set_cons_succ])
            (refine wpAnyH_take (i := 2) (v := ?_) rfl (by kernel_rfl) (by kernel_rfl) (by kernel_rfl) (fun _ _ _ h => h) (Or.inl ⟨by rfl, ?_⟩) hH_ ?_; rotate_left; (focus (intro w_ hSw_; go_simp; try (with_reducible rfl))); simp only [List.getElem_toArray, List.getElem_cons_succ, List.getElem_cons_zero, Act.put, List.setIfInBounds_toArray, List.set_cons_zero, List.set_cons_succ])
            (refine wpAnyH_take (i := 3) (v := ?_) rfl (by kernel_rfl) (by kernel_rfl) (by kernel_rfl) (fun _ _ _ h => h) (Or.inl ⟨by rfl, ?_⟩) hH_ ?_; rotate_left; (focus (intro w_ hSw_; go_simp; try (with_reducible rfl))); simp only [List.getElem_toArray, List.getElem_cons_succ, List.getElem_cons_zero, Act.put, List.setIfInBounds_toArray, List.set_cons_zero, List.set_cons_succ])
            (refine wpAnyH_take (i := 4) (v := ?_) rfl (by kernel_rfl) (by kernel_rfl) (by kernel_rfl) (fun _ _ _ h => h) (Or.inl ⟨by rfl, ?_⟩) hH_ ?_; rotate_left; (focus (intro w_ hSw_; go_simp; try (with_reducible rfl))); simp only [List.getElem_toArray, List.getElem_cons_succ, List.getElem_cons_zero, Act.put, List.setIfInBounds_toArray, List.set_cons_zero, List.set_cons_succ])
            (refine wpAnyH_take (i := 5) (v := ?_) rfl (by kernel_rfl) (by kernel_rfl) (by kernel_rfl) (fun _ _ _ h => h) (Or.inl ⟨by rfl, ?_⟩) hH_ ?_; rotate_left; (focus (intro w_ hSw_; go_simp; try (with_reducible rfl))); simp only [List.getElem_toArray, List.getElem_cons_succ, List.getElem_cons_zero, Act.put, List.setIfInBounds_toArray, List.set_cons_zero, List.set_cons_succ])
            (refine wpAnyH_take (i := 6) rfl (by kernel_rfl) (by kernel_rfl) (by kernel_rfl) (fun _ _ _ h => h) (yieldsIf_load_cell (by rfl) 3 (.tmp 51) rfl (w8) (1) rfl (.int .i64 (n : Int)) (run_isAgg_plain Try.underlying3 rfl) (fun W h => (cell_of h 1).trans rfl)) hH_ ?_; simp only [List.getElem_toArray, List.getElem_cons_succ, List.getElem_cons_zero, Act.put, List.setIfInBounds_toArray, List.set_cons_zero, List.set_cons_succ])
            (refine wpAnyH_take (i := 7) (v := ?_) rfl (by kernel_rfl) (by kernel_rfl) (by kernel_rfl) (fun _ _ _ h => h) (Or.inl ⟨by rfl, ?_⟩) hH_ ?_; rotate_left; (focus (intro w_ hSw_; go_simp; try (with_reducible rfl))); simp only [List.getElem_toArray, List.getElem_cons_succ, List.getElem_cons_zero, Act.put, List.setIfInBounds_toArray, List.set_cons_zero, List.set_cons_succ])
            (refine wpAnyH_take (i := 8) rfl (by kernel_rfl) (by kernel_rfl) (by kernel_rfl) (fun _ _ _ h => h) (yieldsIf_load_cell (by rfl) 5 (.tmp 53) rfl (w8) (2) rfl (.int .u8 f2) (run_isAgg_plain Try.underlying5 rfl) (fun W h => (cell_of h 2).trans rfl)) hH_ ?_; simp only [List.getElem_toArray, List.getElem_cons_succ, List.getElem_cons_zero, Act.put, List.setIfInBounds_toArray, List.set_cons_zero, List.set_cons_succ])
            (refine wpAnyH_ready (rs := [9]) (by kernel_rfl) (by simp) ?_; refine AllReadyH.cons rfl (fun K hK => ?_) AllReadyH.nil; go_simp; go_at_call 13; refine (dk_full f2 _).mono ?_; rintro e w' ⟨rfl, hb⟩; have Hx1 := Hx0.below hb; clear Hx0 hb; (try go_simp); refine hK.out _ _ (Hx1.blk At.here) (fun hH2_ => ?_); clear hK K hH_; have hH_ := hH2_; clear hH2_; try simp only [List.getElem_toArray, List.getElem_cons_succ, List.getElem_cons_zero, Act.put, List.setIfInBounds_toArray, List.set_cons_zero, List.set_cons_succ])
            (refine wpAnyH_ready (rs := [10]) (by kernel_rfl) (by simp) ?_; refine AllReadyH.cons rfl (fun K hK => ?_) AllReadyH.nil; go_simp; go_at_call 12; refine (dk_write (d := d) (n : Int) (fullS f2) HF1.out Hx1 (by repeat (with_reducible (first | exact At.here | apply At.there))) (fullS_len _) (by have := HOK.out.2.2.2; omega)).mono ?_; rintro e w' ⟨rfl, Hx2⟩; clear Hx1; rw [HWE.out]; (try go_simp); refine hK.out _ _ (Hx2.blk (At.there At.here)) (fun hH2_ => ?_); clear hK K hH_; have hH_ := hH2_; clear hH2_; try simp only [List.getElem_toArray, List.getElem_cons_succ, List.getElem_cons_zero, Act.put, List.setIfInBounds_toArray, List.set_cons_zero, List.set_cons_succ])
            (refine wpAnyH_take (i := 11) (v := ?_) rfl (by kernel_rfl) (by kernel_rfl) (by kernel_rfl) (fun _ _ _ h => h) (Or.inl ⟨by rfl, ?_⟩) hH_ ?_; rotate_left; (focus (intro w_ hSw_; go_simp; try (with_reducible rfl))); simp only [List.getElem_toArray, List.getElem_cons_succ, List.getElem_cons_zero, Act.put, List.setIfInBounds_toArray, List.set_cons_zero, List.set_cons_succ])
            (refine wpAnyH_take (i := 12) (v := ?_) rfl (by kernel_rfl) (by kernel_rfl) (by kernel_rfl) (fun _ _ _ h => h) (Or.inl ⟨by rfl, ?_⟩) hH_ ?_; rotate_left; (focus (intro w_ hSw_; go_simp; try (with_reducible rfl))); simp only [List.getElem_toArray, List.getElem_cons_succ, List.getElem_cons_zero, Act.put, List.setIfInBounds_toArray, List.set_cons_zero, List.set_cons_succ])
            refine wpAnyH_done (by kernel_rfl) ?_ _
            clear hH_ H6
            have F := (Hx2).facts; simp only [factsOf, Asr.facts, blkFacts, cellsAre, List.toList_toArray, forall_const, Nat.zero_add, Nat.reduceAdd, and_true, true_and] at F
            go_wp2_with fail
            clear F
            have hvl := Dk.view_len Hx2 (d := d.write (n : Int) (fullS f2)) (by repeat (with_reducible (first | exact At.here | apply At.there)))
            have hwv : (d.write (n : Int) (fullS f2)).view = updF d.view (n : Int) (fullS f2) := Dk.write_view HH.out HOF.out
            have hvl0 : ∀ i, (d.view i).length = 128 := fun i => HVL0.out i
            obtain ⟨q1, q2, q3, q4, q5⟩ := Dk.write_rest (s := fullS f2) HH.out HOF.out
            have HOK2 : Aside0 (laminalaw02_DiskLast.Ok (k + 1) (d.write (n : Int) (fullS f2))) := ⟨q1.trans HOK.out.1, q2.trans HOK.out.2.1, q3.trans HOK.out.2.2.1, by rw [q4, q5]; have := HOK.out.2.2.2; omega⟩
            have HPUT : Aside0 (putAt (u8A (flat6 d.view)) (n * 128) (u8A (fullS f2)).toList = u8A (flat6 (d.write (n : Int) (fullS f2)).view)) := ⟨by rw [u8A_toList, putAt_u8A, fullS_len, flat6_put hvl0 _ (fullS_len _) n hn6, hwv]⟩
            have HSZ : Aside0 (n * 128 + 128 ≤ (u8A (flat6 d.view)).size) := ⟨by rw [u8A_size, flat6_len hvl0]; omega⟩
            have HFL : Aside0 ((u8A (fullS f2)).size = 128) := ⟨by rw [u8A_size, fullS_len]⟩
            clear q1 q2 q3 q4 q5 hvl hwv hvl0
            obtain ⟨d2, hd2⟩ : ∃ d2, d2 = d.write (n : Int) (fullS f2) := ⟨_, rfl⟩
            rw [← hd2] at Hx2 HOK2 HPUT
            clear hd2
            have Hy0 := (Hx2.toS.drew).cx
            refine wp_region_held_drew (S := fun W => W.heap[w8]? = some (.cells #[.int .i64 f0, .int .i64 (n : Int), .int .u8 f2, .slice A3 f3.length c3] 36 (0, 0))) (by kernel_rfl) (Hy0.blk (At.there At.here)) (fun hH_ => ?_)
            clear Hx2
            (refine wpAnyH_take (i := 0) (v := ?_) rfl (by kernel_rfl) (by kernel_rfl) (by kernel_rfl) (fun _ _ _ h => h) (Or.inl ⟨by rfl, ?_⟩) hH_ ?_; rotate_left; (focus (intro w_ hSw_; go_simp; try (with_reducible rfl))); simp only [List.getElem_toArray, List.getElem_cons_succ, List.getElem_cons_zero, Act.put, List.setIfInBounds_toArray, List.set_cons_zero, List.set_cons_succ])
            (refine wpAnyH_take (i := 1) rfl (by kernel_rfl) (by kernel_rfl) (by kernel_rfl) (fun _ _ _ h => h) (yieldsIf_load_cell (by rfl) 3 (.tmp 67) rfl (w8) (1) rfl (.int .i64 (n : Int)) (run_isAgg_plain Try.underlying3 rfl) (fun W h => (cell_of h 1).trans rfl)) hH_ ?_; simp only [List.getElem_toArray, List.getElem_cons_succ, List.getElem_cons_zero, Act.put, List.setIfInBounds_toArray, List.set_cons_zero, List.set_cons_succ])
            (refine wpAnyH_take (i := 2) (v := ?_) rfl (by kernel_rfl) (by kernel_rfl) (by kernel_rfl) (fun _ _ _ h => h) (Or.inl ⟨by rfl, ?_⟩) hH_ ?_; rotate_left; (focus (intro w_ hSw_; go_simp; try (with_reducible rfl))); simp only [List.getElem_toArray, List.getElem_cons_succ, List.getElem_cons_zero, Act.put, List.setIfInBounds_toArray, List.set_cons_zero, List.set_cons_succ])
            (refine wpAnyH_take (i := 3) rfl (by kernel_rfl) (by kernel_rfl) (by kernel_rfl) (fun _ _ _ h => h) (yieldsIf_load_cell (by rfl) 5 (.tmp 69) rfl (w8) (2) rfl (.int .u8 f2) (run_isAgg_plain Try.underlying5 rfl) (fun W h => (cell_of h 2).trans rfl)) hH_ ?_; simp only [List.getElem_toArray, List.getElem_cons_succ, List.getElem_cons_zero, Act.put, List.setIfInBounds_toArray, List.set_cons_zero, List.set_cons_succ])
            (refine wpAnyH_ready (rs := [4]) (by kernel_rfl) (by simp) ?_; refine AllReadyH.cons rfl (fun K hK => ?_) AllReadyH.nil; go_simp; go_at_call 13; refine (dk_full f2 _).mono ?_; rintro e w' ⟨rfl, hb⟩; have Hy1 := Hy0.below hb; clear Hy0 hb; (try go_simp); refine hK.out _ _ (Hy1.blk (At.there At.here)) (fun hH2_ => ?_); clear hK K hH_; have hH_ := hH2_; clear hH2_; try simp only [List.getElem_toArray, List.getElem_cons_succ, List.getElem_cons_zero, Act.put, List.setIfInBounds_toArray, List.set_cons_zero, List.set_cons_succ])
            (refine wpAnyH_take (i := 5) (v := ?_) rfl (by kernel_rfl) (by kernel_rfl) (by kernel_rfl) (fun _ _ _ h => h) (Or.inl ⟨by rfl, ?_⟩) hH_ ?_; rotate_left; (focus (intro w_ hSw_; go_simp; try (with_reducible rfl))); simp only [List.getElem_toArray, List.getElem_cons_succ, List.getElem_cons_zero, Act.put, List.setIfInBounds_toArray, List.set_cons_zero, List.set_cons_succ])
            have hlast := ((Hy1.toS.setMid (g := g) (cs := u8A (flat6 d.view)) (by repeat (with_reducible (first | exact At.here | apply At.there))) (n * 128) (u8A (fullS f2)).toList (by have := HFL.out; have := HSZ.out; rw [Array.length_toList]; omega)).cx)
            rw [HPUT.out] at hlast
            (refine wpAnyH_ready (rs := [6]) (by kernel_rfl) (by simp) ?_; refine AllReadyH.cons rfl (fun K hK => ?_) AllReadyH.nil; rw [if_pos (by rfl)]; refine wp_store_mid 34 (.tmp 72) (.tmp 71) rfl (g) (n * 128) (u8A (fullS f2)) rfl rfl (there_blk (Hy1.blk (b := g) (o := .cells (u8A (flat6 d.view)) 46 (0, 0)) (by repeat (with_reducible (first | exact At.here | apply At.there)))) _ _ (by rw [HFL.out]; exact HSZ.out)) (dk_isz (fullS_len _)) (u8A_one _) ?_; refine hK.out _ _ (hlast.blk (At.there (At.there At.here))) (fun hH2_ => ?_); clear hK K hH_; have hH_ := hH2_; clear hH2_; try simp only [List.getElem_toArray, List.getElem_cons_succ, List.getElem_cons_zero, Act.put, List.setIfInBounds_toArray, List.set_cons_zero, List.set_cons_succ])
            refine wpAnyH_done (by kernel_rfl) ?_ _
            have H7 := hlast.drop (a := .blk w8 (.cells #[.int .i64 f0, .int .i64 (n : Int), .int .u8 f2, .slice A3 f3.length c3] 36 (0, 0))) (by repeat (with_reducible (first | exact At.here | apply At.there)))
            clear hlast hH_ Hy1
            · go_wp2_with fail; go_loopw [73] (fun v73 wr => ∃ j : Nat, j ≤ 6 ∧ v73 = .int .i64 j ∧ Cx w.heap.size w wr [.blk g (.cells (u8A (flat6 (d2).view)) 46 (0, 0)), .own dkR (.pointer (some ⟨b, 0, none⟩)) (d2)]) (fun v73 _ => 6 - (intOf v73).toNat)
              case atStart => exact ⟨0, by omega, rfl, H7⟩
              case round =>
                clear H7
                obtain ⟨j, hj, rfl, HL⟩ := hrel
                by_cases hjl : j < 6
                · have hj0 : (0 : Int) ≤ (j : Int) := by omega
                  have hj1 : (j : Int) < 6 := by omega
                  have hrv : (d2).read (j : Int) = ((d2).view (j : Int), none) := Dk.read_view (HOK2).out.1 (by unfold Dk.has; rw [(HOK2).out.2.2.1]; exact decide_eq_true ⟨hj0, hj1⟩)
                  have hvl := Dk.view_len HL (d := d2) (by repeat (with_reducible (first | exact At.here | apply At.there)))
                  have HVL := Aside0.mk hvl
                  have HRV := Aside0.mk hrv
                  clear hvl hrv
                  go_wp2_with fail
                  refine (dk_read (d := d2) (j : Int) (by simp [Lit.wf, IntKind.min, IntKind.max, IntKind.signed, IntKind.bits]; omega) HL (by repeat (with_reducible (first | exact At.here | apply At.there))) (by have := (HOK2).out.2.2.2; omega)).mono ?_
                  rintro e w20 ⟨rfl, H20⟩
                  clear HL
                  rw [HRV.out, errW_none]
                  have F : True := trivial
                  go_wp2_with ((((with_reducible refine gate_store (t := 34) (x := .tmp 10) (y := .tmp 80) rfl ?_); (apply Cx.atList); (focus ((repeat (with_reducible (first | exact (H20).toS | exact At.here | apply At.there | apply CxS.drewN | apply CxS.drew | apply CxS.alloc | apply CxS.set | apply CxS.setRow))))); intro HT_; refine wpList_store_row rfl 34 (.tmp 10) (.tmp 80) rfl (w20.heap.size) (u8A ((d2).view (j : Int))) rfl rfl _ _ (HT_.blk (by repeat (with_reducible (first | exact At.here | apply At.there)))) (dk_isz (HVL.out _)) (by rw [u8A_size, u8A_size, sz0_len, HVL.out]) (u8A_one _) ?_; clear HT_); clear F; (apply Cx.genList); (focus ((repeat (with_reducible (first | exact (H20).toS | exact At.here | apply At.there | apply CxS.drewN | apply CxS.drew | apply CxS.alloc | apply CxS.set | apply CxS.setRow))))); clear H20; intro w21 H21; have F := (H21).facts; simp only [factsOf, Asr.facts, blkFacts, cellsAre, List.toList_toArray, forall_const, Nat.zero_add, Nat.reduceAdd, and_true, true_and] at F))
                  clear F
                  have heq : ∀ W, (Op.equalIn 10000 34 (.agg (((d2).view (j : Int)).map (Value.int .u8)).toArray) (.agg (((d2).view (j : Int)).map (Value.int .u8)).toArray)).run Try.prog W = .ok true W := fun W => by have := dk_eql _ _ (HVL.out (j : Int)) (HVL.out (j : Int)) W; rwa [decide_eq_true rfl] at this
                  have hi1 : (Try.prog.info? 34).map (·.size) = some (((d2).view (j : Int)).map (Value.int .u8)).length := by rw [List.length_map, HVL.out]; exact dk_info
                  refine wp_region_held_drew (S := fun W => Cx w.heap.size w W [.blk w20.heap.size (.cells (u8A ((d2).view (j : Int))) 34 (0, 0)), .blk g (.cells (u8A (flat6 (d2).view)) 46 (0, 0)), .own dkR (.pointer (some ⟨b, 0, none⟩)) (d2)]) (by kernel_rfl) ((H21.toS.drew).cx) (fun hH_ => ?_)
                  clear H21
                  (refine wpAnyH_take (i := 0) (v := ?_) rfl (by kernel_rfl) (by kernel_rfl) (by kernel_rfl) (fun _ _ _ h => h) (Or.inl ⟨by rfl, ?_⟩) hH_ ?_; rotate_left; (focus (intro w_ hSw_; go_simp; try (with_reducible rfl))); simp only [List.getElem_toArray, List.getElem_cons_succ, List.getElem_cons_zero, Act.put, List.setIfInBounds_toArray, List.set_cons_zero, List.set_cons_succ])
                  (refine wpAnyH_take (i := 1) (v := ?_) rfl (by kernel_rfl) (by kernel_rfl) (by kernel_rfl) (fun _ _ _ h => h) (Or.inl ⟨by rfl, ?_⟩) hH_ ?_; rotate_left; (focus (intro w_ hSw_; go_simp; try (with_reducible rfl))); simp only [List.getElem_toArray, List.getElem_cons_succ, List.getElem_cons_zero, Act.put, List.setIfInBounds_toArray, List.set_cons_zero, List.set_cons_succ])
                  (refine wpAnyH_take (i := 2) (v := ?_) rfl (by kernel_rfl) (by kernel_rfl) (by kernel_rfl) (fun _ _ _ h => h) (Or.inl ⟨by rfl, ?_⟩) hH_ ?_; rotate_left; (focus (intro w_ hSw_; go_simp; try (with_reducible rfl))); simp only [List.getElem_toArray, List.getElem_cons_succ, List.getElem_cons_zero, Act.put, List.setIfInBounds_toArray, List.set_cons_zero, List.set_cons_succ])
                  (refine wpAnyH_take (i := 3) rfl (by kernel_rfl) (by kernel_rfl) (by kernel_rfl) (fun _ _ _ h => h) (yieldsIf_load_mid (by rfl) 34 (.tmp 10) rfl (w20.heap.size) (0) rfl (((d2).view (j : Int)).map (Value.int .u8)) _ (fun W h => rangeAt_u8A (h.blk At.here)) Try.underlying34 rfl (hi1)) hH_ ?_; simp only [List.getElem_toArray, List.getElem_cons_succ, List.getElem_cons_zero, Act.put, List.setIfInBounds_toArray, List.set_cons_zero, List.set_cons_succ])
                  (refine wpAnyH_take (i := 4) (v := ?_) rfl (by kernel_rfl) (by kernel_rfl) (by kernel_rfl) (fun _ _ _ h => h) (Or.inl ⟨by rfl, ?_⟩) hH_ ?_; rotate_left; (focus (intro w_ hSw_; go_simp; try (with_reducible rfl))); simp only [List.getElem_toArray, List.getElem_cons_succ, List.getElem_cons_zero, Act.put, List.setIfInBounds_toArray, List.set_cons_zero, List.set_cons_succ])
                  (refine wpAnyH_take (i := 5) (v := ?_) rfl (by kernel_rfl) (by kernel_rfl) (by kernel_rfl) (fun _ _ _ h => h) (Or.inl ⟨by rfl, ?_⟩) hH_ ?_; rotate_left; (focus (intro w_ hSw_; go_simp; try (with_reducible rfl))); simp only [List.getElem_toArray, List.getElem_cons_succ, List.getElem_cons_zero, Act.put, List.setIfInBounds_toArray, List.set_cons_zero, List.set_cons_succ])
                  (refine wpAnyH_take (i := 6) rfl (by kernel_rfl) (by kernel_rfl) (by kernel_rfl) (fun _ _ _ h => h) (yieldsIf_load_mid (by rfl) 34 (.tmp 87) rfl (g) (j * 128) rfl (((d2).view (j : Int)).map (Value.int .u8)) _ (fun W h => h.six (At.there At.here) HVL.out j hjl) Try.underlying34 rfl (hi1)) hH_ ?_; simp only [List.getElem_toArray, List.getElem_cons_succ, List.getElem_cons_zero, Act.put, List.setIfInBounds_toArray, List.set_cons_zero, List.set_cons_succ])
                  (refine wpAnyH_take (i := 7) (v := ?_) rfl (by kernel_rfl) (by kernel_rfl) (by kernel_rfl) (fun _ _ _ h => h) (Or.inl ⟨by rfl, ?_⟩) hH_ ?_; rotate_left; (focus (intro w_ hSw_; go_simp; try (with_reducible rfl))); simp only [List.getElem_toArray, List.getElem_cons_succ, List.getElem_cons_zero, Act.put, List.setIfInBounds_toArray, List.set_cons_zero, List.set_cons_succ])
                  (refine wpAnyH_take (i := 8) (v := ?_) rfl (by kernel_rfl) (by kernel_rfl) (by kernel_rfl) (fun _ _ _ h => h) (Or.inl ⟨by rfl, ?_⟩) hH_ ?_; rotate_left; (focus (intro w_ hSw_; go_simp; try (with_reducible rfl))); simp only [List.getElem_toArray, List.getElem_cons_succ, List.getElem_cons_zero, Act.put, List.setIfInBounds_toArray, List.set_cons_zero, List.set_cons_succ])
                  refine wpAnyH_done (by kernel_rfl) ?_ _
                  go_wp2
                  exact ⟨⟨j + 1, by omega, by go_num, hH_.tail⟩, by simp [intOf]; omega⟩
                · obtain rfl : j = 6 := by omega
                  go_wp2
                  exact ⟨⟨k + 1, d2, by omega, by go_num, HOK2, HL⟩, by simp [intOf]; omega⟩
          · have HWE : Aside0 (errW (d.writeE f1) = .iface 56 (.int .i64 1)) := ⟨by simp [Dk.writeE, hh, errW]⟩
            have HWN : Aside0 (d.write f1 (fullS f2) = d) := ⟨Dk.write_no (by simpa using hh)⟩
            clear hh
            go_wp2_with fail
            ((first | apply Cx.genCall | apply Cx.genCode | apply Cx.genList); (focus ((repeat (with_reducible (first | exact (H5).toS | exact At.here | apply At.there | apply CxS.drewN | apply CxS.drew | apply CxS.alloc | apply CxS.set | apply CxS.setRow))))); clear H5; intro w6 H6)
            try simp only [List.setIfInBounds_toArray, List.set_cons_zero, List.set_cons_succ] at H6
            clear t0 t1 t2 t3
            obtain ⟨w8, hw8⟩ : ∃ w8, w8 = wr.heap.size := ⟨_, rfl⟩
            rw [← hw8] at H6 ⊢
            clear hw8
            have Hx0 := (H6.toS.drew).cx
            refine wp_region_held_drew (S := fun W => W.heap[w8]? = some (.cells #[.int .i64 f0, .int .i64 f1, .int .u8 f2, .slice A3 f3.length c3] 36 (0, 0))) (by kernel_rfl) (Hx0.blk At.here) (fun hH_ => ?_)
            (refine wpAnyH_take (i := 0) (v := ?_) rfl (by kernel_rfl) (by kernel_rfl) (by kernel_rfl) (fun _ _ _ h => h) (Or.inl ⟨by rfl, ?_⟩) hH_ ?_; rotate_left; (focus (intro w_ hSw_; go_simp; try (with_reducible rfl))); simp only [List.getElem_toArray, List.getElem_cons_succ, List.getElem_cons_zero, Act.put, List.setIfInBounds_toArray, List.set_cons_zero, List.set_cons_succ])
            (refine wpAnyH_take (i := 1) rfl (by kernel_rfl) (by kernel_rfl) (by kernel_rfl) (fun _ _ _ h => h) (yieldsIf_load_cell (by rfl) 3 (.tmp 46) rfl (w8) (0) rfl (.int .i64 f0) (run_isAgg_plain Try.underlying3 rfl) (fun W h => (cell_of h 0).trans rfl)) hH_ ?_; simp only [List.getElem_toArray, List.getElem_cons_succ, List.getElem_cons_zero, Act.put, List.setIfInBounds_toArray, List.set_cons_zero, List.set_cons_succ])
            (refine wpAnyH_take (i := 2) (v := ?_) rfl (by kernel_rfl) (by kernel_rfl) (by kernel_rfl) (fun _ _ _ h => h) (Or.inl ⟨by rfl, ?_⟩) hH_ ?_; rotate_left; (focus (intro w_ hSw_; go_simp; try (with_reducible rfl))); simp only [List.getElem_toArray, List.getElem_cons_succ, List.getElem_cons_zero, Act.put, List.setIfInBounds_toArray, List.set_cons_zero, List.set_cons_succ])
            (refine wpAnyH_take (i := 3) (v := ?_) rfl (by kernel_rfl) (by kernel_rfl) (by kernel_rfl) (fun _ _ _ h => h) (Or.inl ⟨by rfl, ?_⟩) hH_ ?_; rotate_left; (focus (intro w_ hSw_; go_simp; try (with_reducible rfl))); simp only [List.getElem_toArray, List.getElem_cons_succ, List.getElem_cons_zero, Act.put, List.setIfInBounds_toArray, List.set_cons_zero, List.set_cons_succ])
            (refine wpAnyH_take (i := 4) (v := ?_) rfl (by kernel_rfl) (by kernel_rfl) (by kernel_rfl) (fun _ _ _ h => h) (Or.inl ⟨by rfl, ?_⟩) hH_ ?_; rotate_left; (focus (intro w_ hSw_; go_simp; try (with_reducible rfl))); simp only [List.getElem_toArray, List.getElem_cons_succ, List.getElem_cons_zero, Act.put, List.setIfInBounds_toArray, List.set_cons_zero, List.set_cons_succ])
            (refine wpAnyH_take (i := 5) (v := ?_) rfl (by kernel_rfl) (by kernel_rfl) (by kernel_rfl) (fun _ _ _ h => h) (Or.inl ⟨by rfl, ?_⟩) hH_ ?_; rotate_left; (focus (intro w_ hSw_; go_simp; try (with_reducible rfl))); simp only [List.getElem_toArray, List.getElem_cons_succ, List.getElem_cons_zero, Act.put, List.setIfInBounds_toArray, List.set_cons_zero, List.set_cons_succ])
            (refine wpAnyH_take (i := 6) rfl (by kernel_rfl) (by kernel_rfl) (by kernel_rfl) (fun _ _ _ h => h) (yieldsIf_load_cell (by rfl) 3 (.tmp 51) rfl (w8) (1) rfl (.int .i64 f1) (run_isAgg_plain Try.underlying3 rfl) (fun W h => (cell_of h 1).trans rfl)) hH_ ?_; simp only [List.getElem_toArray, List.getElem_cons_succ, List.getElem_cons_zero, Act.put, List.setIfInBounds_toArray, List.set_cons_zero, List.set_cons_succ])
            (refine wpAnyH_take (i := 7) (v := ?_) rfl (by kernel_rfl) (by kernel_rfl) (by kernel_rfl) (fun _ _ _ h => h) (Or.inl ⟨by rfl, ?_⟩) hH_ ?_; rotate_left; (focus (intro w_ hSw_; go_simp; try (with_reducible rfl))); simp only [List.getElem_toArray, List.getElem_cons_succ, List.getElem_cons_zero, Act.put, List.setIfInBounds_toArray, List.set_cons_zero, List.set_cons_succ])
            (refine wpAnyH_take (i := 8) rfl (by kernel_rfl) (by kernel_rfl) (by kernel_rfl) (fun _ _ _ h => h) (yieldsIf_load_cell (by rfl) 5 (.tmp 53) rfl (w8) (2) rfl (.int .u8 f2) (run_isAgg_plain Try.underlying5 rfl) (fun W h => (cell_of h 2).trans rfl)) hH_ ?_; simp only [List.getElem_toArray, List.getElem_cons_succ, List.getElem_cons_zero, Act.put, List.setIfInBounds_toArray, List.set_cons_zero, List.set_cons_succ])
            (refine wpAnyH_ready (rs := [9]) (by kernel_rfl) (by simp) ?_; refine AllReadyH.cons rfl (fun K hK => ?_) AllReadyH.nil; go_simp; go_at_call 13; refine (dk_full f2 _).mono ?_; rintro e w' ⟨rfl, hb⟩; have Hx1 := Hx0.below hb; clear Hx0 hb; (try go_simp); refine hK.out _ _ (Hx1.blk At.here) (fun hH2_ => ?_); clear hK K hH_; have hH_ := hH2_; clear hH2_; try simp only [List.getElem_toArray, List.getElem_cons_succ, List.getElem_cons_zero, Act.put, List.setIfInBounds_toArray, List.set_cons_zero, List.set_cons_succ])
            (refine wpAnyH_ready (rs := [10]) (by kernel_rfl) (by simp) ?_; refine AllReadyH.cons rfl (fun K hK => ?_) AllReadyH.nil; go_simp; go_at_call 12; refine (dk_write (d := d) f1 (fullS f2) HF1.out Hx1 (by repeat (with_reducible (first | exact At.here | apply At.there))) (fullS_len _) (by have := HOK.out.2.2.2; omega)).mono ?_; rintro e w' ⟨rfl, Hx2⟩; clear Hx1; rw [HWN.out] at Hx2; rw [HWE.out]; (try go_simp); refine hK.out _ _ (Hx2.blk (At.there At.here)) (fun hH2_ => ?_); clear hK K hH_; have hH_ := hH2_; clear hH2_; try simp only [List.getElem_toArray, List.getElem_cons_succ, List.getElem_cons_zero, Act.put, List.setIfInBounds_toArray, List.set_cons_zero, List.set_cons_succ])
            (refine wpAnyH_take (i := 11) (v := ?_) rfl (by kernel_rfl) (by kernel_rfl) (by kernel_rfl) (fun _ _ _ h => h) (Or.inl ⟨by rfl, ?_⟩) hH_ ?_; rotate_left; (focus (intro w_ hSw_; go_simp; try (with_reducible rfl))); simp only [List.getElem_toArray, List.getElem_cons_succ, List.getElem_cons_zero, Act.put, List.setIfInBounds_toArray, List.set_cons_zero, List.set_cons_succ])
            (refine wpAnyH_take (i := 12) (v := ?_) rfl (by kernel_rfl) (by kernel_rfl) (by kernel_rfl) (fun _ _ _ h => h) (Or.inl ⟨by rfl, ?_⟩) hH_ ?_; rotate_left; (focus (intro w_ hSw_; go_simp; try (with_reducible rfl))); simp only [List.getElem_toArray, List.getElem_cons_succ, List.getElem_cons_zero, Act.put, List.setIfInBounds_toArray, List.set_cons_zero, List.set_cons_succ])
            refine wpAnyH_done (by kernel_rfl) ?_ _
            clear hH_ H6
            have H7 := ((Hx2.drop (a := .blk w8 (.cells #[.int .i64 f0, .int .i64 f1, .int .u8 f2, .slice A3 f3.length c3] 36 (0, 0))) (by repeat (with_reducible (first | exact At.here | apply At.there)))).find (At.there At.here))
            have HOK2 : Aside0 (laminalaw02_DiskLast.Ok (k + 1) d) := ⟨HOK.out.1, HOK.out.2.1, HOK.out.2.2.1, by have := HOK.out.2.2.2; omega⟩
            clear Hx2
            · go_wp2_with fail; go_loopw [73] (fun v73 wr => ∃ j : Nat, j ≤ 6 ∧ v73 = .int .i64 j ∧ Cx w.heap.size w wr [.blk g (.cells (u8A (flat6 (d).view)) 46 (0, 0)), .own dkR (.pointer (some ⟨b, 0, none⟩)) (d)]) (fun v73 _ => 6 - (intOf v73).toNat)
              case atStart => exact ⟨0, by omega, rfl, H7⟩
              case round =>
                clear H7
                obtain ⟨j, hj, rfl, HL⟩ := hrel
                by_cases hjl : j < 6
                · have hj0 : (0 : Int) ≤ (j : Int) := by omega
                  have hj1 : (j : Int) < 6 := by omega
                  have hrv : (d).read (j : Int) = ((d).view (j : Int), none) := Dk.read_view (HOK2).out.1 (by unfold Dk.has; rw [(HOK2).out.2.2.1]; exact decide_eq_true ⟨hj0, hj1⟩)
                  have hvl := Dk.view_len HL (d := d) (by repeat (with_reducible (first | exact At.here | apply At.there)))
                  have HVL := Aside0.mk hvl
                  have HRV := Aside0.mk hrv
                  clear hvl hrv
                  go_wp2_with fail
                  refine (dk_read (d := d) (j : Int) (by simp [Lit.wf, IntKind.min, IntKind.max, IntKind.signed, IntKind.bits]; omega) HL (by repeat (with_reducible (first | exact At.here | apply At.there))) (by have := (HOK2).out.2.2.2; omega)).mono ?_
                  rintro e w20 ⟨rfl, H20⟩
                  clear HL
                  rw [HRV.out, errW_none]
                  have F : True := trivial
                  go_wp2_with ((((with_reducible refine gate_store (t := 34) (x := .tmp 10) (y := .tmp 80) rfl ?_); (apply Cx.atList); (focus ((repeat (with_reducible (first | exact (H20).toS | exact At.here | apply At.there | apply CxS.drewN | apply CxS.drew | apply CxS.alloc | apply CxS.set | apply CxS.setRow))))); intro HT_; refine wpList_store_row rfl 34 (.tmp 10) (.tmp 80) rfl (w20.heap.size) (u8A ((d).view (j : Int))) rfl rfl _ _ (HT_.blk (by repeat (with_reducible (first | exact At.here | apply At.there)))) (dk_isz (HVL.out _)) (by rw [u8A_size, u8A_size, sz0_len, HVL.out]) (u8A_one _) ?_; clear HT_); clear F; (apply Cx.genList); (focus ((repeat (with_reducible (first | exact (H20).toS | exact At.here | apply At.there | apply CxS.drewN | apply CxS.drew | apply CxS.alloc | apply CxS.set | apply CxS.setRow))))); clear H20; intro w21 H21; have F := (H21).facts; simp only [factsOf, Asr.facts, blkFacts, cellsAre, List.toList_toArray, forall_const, Nat.zero_add, Nat.reduceAdd, and_true, true_and] at F))
                  clear F
                  have heq : ∀ W, (Op.equalIn 10000 34 (.agg (((d).view (j : Int)).map (Value.int .u8)).toArray) (.agg (((d).view (j : Int)).map (Value.int .u8)).toArray)).run Try.prog W = .ok true W := fun W => by have := dk_eql _ _ (HVL.out (j : Int)) (HVL.out (j : Int)) W; rwa [decide_eq_true rfl] at this
                  have hi1 : (Try.prog.info? 34).map (·.size) = some (((d).view (j : Int)).map (Value.int .u8)).length := by rw [List.length_map, HVL.out]; exact dk_info
                  refine wp_region_held_drew (S := fun W => Cx w.heap.size w W [.blk w20.heap.size (.cells (u8A ((d).view (j : Int))) 34 (0, 0)), .blk g (.cells (u8A (flat6 (d).view)) 46 (0, 0)), .own dkR (.pointer (some ⟨b, 0, none⟩)) (d)]) (by kernel_rfl) ((H21.toS.drew).cx) (fun hH_ => ?_)
                  clear H21
                  (refine wpAnyH_take (i := 0) (v := ?_) rfl (by kernel_rfl) (by kernel_rfl) (by kernel_rfl) (fun _ _ _ h => h) (Or.inl ⟨by rfl, ?_⟩) hH_ ?_; rotate_left; (focus (intro w_ hSw_; go_simp; try (with_reducible rfl))); simp only [List.getElem_toArray, List.getElem_cons_succ, List.getElem_cons_zero, Act.put, List.setIfInBounds_toArray, List.set_cons_zero, List.set_cons_succ])
                  (refine wpAnyH_take (i := 1) (v := ?_) rfl (by kernel_rfl) (by kernel_rfl) (by kernel_rfl) (fun _ _ _ h => h) (Or.inl ⟨by rfl, ?_⟩) hH_ ?_; rotate_left; (focus (intro w_ hSw_; go_simp; try (with_reducible rfl))); simp only [List.getElem_toArray, List.getElem_cons_succ, List.getElem_cons_zero, Act.put, List.setIfInBounds_toArray, List.set_cons_zero, List.set_cons_succ])
                  (refine wpAnyH_take (i := 2) (v := ?_) rfl (by kernel_rfl) (by kernel_rfl) (by kernel_rfl) (fun _ _ _ h => h) (Or.inl ⟨by rfl, ?_⟩) hH_ ?_; rotate_left; (focus (intro w_ hSw_; go_simp; try (with_reducible rfl))); simp only [List.getElem_toArray, List.getElem_cons_succ, List.getElem_cons_zero, Act.put, List.setIfInBounds_toArray, List.set_cons_zero, List.set_cons_succ])
                  (refine wpAnyH_take (i := 3) rfl (by kernel_rfl) (by kernel_rfl) (by kernel_rfl) (fun _ _ _ h => h) (yieldsIf_load_mid (by rfl) 34 (.tmp 10) rfl (w20.heap.size) (0) rfl (((d).view (j : Int)).map (Value.int .u8)) _ (fun W h => rangeAt_u8A (h.blk At.here)) Try.underlying34 rfl (hi1)) hH_ ?_; simp only [List.getElem_toArray, List.getElem_cons_succ, List.getElem_cons_zero, Act.put, List.setIfInBounds_toArray, List.set_cons_zero, List.set_cons_succ])
                  (refine wpAnyH_take (i := 4) (v := ?_) rfl (by kernel_rfl) (by kernel_rfl) (by kernel_rfl) (fun _ _ _ h => h) (Or.inl ⟨by rfl, ?_⟩) hH_ ?_; rotate_left; (focus (intro w_ hSw_; go_simp; try (with_reducible rfl))); simp only [List.getElem_toArray, List.getElem_cons_succ, List.getElem_cons_zero, Act.put, List.setIfInBounds_toArray, List.set_cons_zero, List.set_cons_succ])
                  (refine wpAnyH_take (i := 5) (v := ?_) rfl (by kernel_rfl) (by kernel_rfl) (by kernel_rfl) (fun _ _ _ h => h) (Or.inl ⟨by rfl, ?_⟩) hH_ ?_; rotate_left; (focus (intro w_ hSw_; go_simp; try (with_reducible rfl))); simp only [List.getElem_toArray, List.getElem_cons_succ, List.getElem_cons_zero, Act.put, List.setIfInBounds_toArray, List.set_cons_zero, List.set_cons_succ])
                  (refine wpAnyH_take (i := 6) rfl (by kernel_rfl) (by kernel_rfl) (by kernel_rfl) (fun _ _ _ h => h) (yieldsIf_load_mid (by rfl) 34 (.tmp 87) rfl (g) (j * 128) rfl (((d).view (j : Int)).map (Value.int .u8)) _ (fun W h => h.six (At.there At.here) HVL.out j hjl) Try.underlying34 rfl (hi1)) hH_ ?_; simp only [List.getElem_toArray, List.getElem_cons_succ, List.getElem_cons_zero, Act.put, List.setIfInBounds_toArray, List.set_cons_zero, List.set_cons_succ])
                  (refine wpAnyH_take (i := 7) (v := ?_) rfl (by kernel_rfl) (by kernel_rfl) (by kernel_rfl) (fun _ _ _ h => h) (Or.inl ⟨by rfl, ?_⟩) hH_ ?_; rotate_left; (focus (intro w_ hSw_; go_simp; try (with_reducible rfl))); simp only [List.getElem_toArray, List.getElem_cons_succ, List.getElem_cons_zero, Act.put, List.setIfInBounds_toArray, List.set_cons_zero, List.set_cons_succ])
                  (refine wpAnyH_take (i := 8) (v := ?_) rfl (by kernel_rfl) (by kernel_rfl) (by kernel_rfl) (fun _ _ _ h => h) (Or.inl ⟨by rfl, ?_⟩) hH_ ?_; rotate_left; (focus (intro w_ hSw_; go_simp; try (with_reducible rfl))); simp only [List.getElem_toArray, List.getElem_cons_succ, List.getElem_cons_zero, Act.put, List.setIfInBounds_toArray, List.set_cons_zero, List.set_cons_succ])
                  refine wpAnyH_done (by kernel_rfl) ?_ _
                  go_wp2
                  exact ⟨⟨j + 1, by omega, by go_num, hH_.tail⟩, by simp [intOf]; omega⟩
                · obtain rfl : j = 6 := by omega
                  go_wp2
                  exact ⟨⟨k + 1, d, by omega, by go_num, HOK2, HL⟩, by simp [intOf]; omega⟩
        · go_wp2_with fail
          ((first | apply Cx.genCall | apply Cx.genCode | apply Cx.genList); (focus ((repeat (with_reducible (first | exact (H5).toS | exact At.here | apply At.there | apply CxS.drewN | apply CxS.drew | apply CxS.alloc | apply CxS.set | apply CxS.setRow))))); clear H5; intro w6 H6)
          try simp only [List.setIfInBounds_toArray, List.set_cons_zero, List.set_cons_succ] at H6
          clear t0 t1 t2 t3
          refine wp_region_held_drew (S := fun W => Cx w.heap.size w W [.blk wr.heap.size (.cells (laminalaw02_full.opC x A3 c3) 36 (0, 0)), .blk g (.cells (u8A (flat6 d.view)) 46 (0, 0)), .own dkR (.pointer (some ⟨b, 0, none⟩)) d]) (by kernel_rfl) ((H6.toS.drew).cx) (fun hH_ => ?_)
          have hkb : (x.f0 == 1) = false := by simp [hk1]
          (refine wpAnyH_take (i := 0) (v := ?_) rfl (by kernel_rfl) (by kernel_rfl) (by kernel_rfl) (fun _ _ _ h => h) (Or.inl ⟨by rfl, ?_⟩) hH_ ?_; rotate_left; (focus (intro w_ hSw_; go_simp; try (with_reducible rfl))); simp only [List.getElem_toArray, List.getElem_cons_succ, List.getElem_cons_zero, Act.put, List.setIfInBounds_toArray, List.set_cons_zero, List.set_cons_succ])
          (refine wpAnyH_take (i := 1) rfl (by kernel_rfl) (by kernel_rfl) (by kernel_rfl) (fun _ _ _ h => h) (yieldsIf_load_cell (by rfl) 3 (.tmp 46) rfl (wr.heap.size) (0) rfl (.int .i64 x.f0) (run_isAgg_plain Try.underlying3 rfl) (fun W h => (cell_of (h.blk At.here) 0).trans rfl)) hH_ ?_; simp only [List.getElem_toArray, List.getElem_cons_succ, List.getElem_cons_zero, Act.put, List.setIfInBounds_toArray, List.set_cons_zero, List.set_cons_succ])
          (refine wpAnyH_take (i := 2) (v := ?_) rfl (by kernel_rfl) (by kernel_rfl) (by kernel_rfl) (fun _ _ _ h => h) (Or.inl ⟨by rfl, ?_⟩) hH_ ?_; rotate_left; (focus (intro w_ hSw_; go_simp; try (with_reducible rfl))); simp only [List.getElem_toArray, List.getElem_cons_succ, List.getElem_cons_zero, Act.put, List.setIfInBounds_toArray, List.set_cons_zero, List.set_cons_succ])
          (refine wpAnyH_take (i := 3) (v := ?_) rfl (by kernel_rfl) (by kernel_rfl) (by kernel_rfl) (fun _ _ _ h => h) (Or.inl ⟨by rfl, ?_⟩) hH_ ?_; rotate_left; (focus (intro w_ hSw_; go_simp; try (with_reducible rfl))); simp only [List.getElem_toArray, List.getElem_cons_succ, List.getElem_cons_zero, Act.put, List.setIfInBounds_toArray, List.set_cons_zero, List.set_cons_succ])
          (refine wpAnyH_take (i := 4) (v := undef) rfl (by kernel_rfl) (by kernel_rfl) (by kernel_rfl) (fun _ _ _ h => h) (Or.inr ⟨by rfl, rfl⟩) hH_ ?_; simp only [List.getElem_toArray, List.getElem_cons_succ, List.getElem_cons_zero, Act.put, List.setIfInBounds_toArray, List.set_cons_zero, List.set_cons_succ])
          (refine wpAnyH_take (i := 5) (v := undef) rfl (by kernel_rfl) (by kernel_rfl) (by kernel_rfl) (fun _ _ _ h => h) (Or.inr ⟨by rfl, rfl⟩) hH_ ?_; simp only [List.getElem_toArray, List.getElem_cons_succ, List.getElem_cons_zero, Act.put, List.setIfInBounds_toArray, List.set_cons_zero, List.set_cons_succ])
          (refine wpAnyH_take (i := 6) (v := undef) rfl (by kernel_rfl) (by kernel_rfl) (by kernel_rfl) (fun _ _ _ h => h) (Or.inr ⟨by rfl, rfl⟩) hH_ ?_; simp only [List.getElem_toArray, List.getElem_cons_succ, List.getElem_cons_zero, Act.put, List.setIfInBounds_toArray, List.set_cons_zero, List.set_cons_succ])
          (refine wpAnyH_take (i := 7) (v := undef) rfl (by kernel_rfl) (by kernel_rfl) (by kernel_rfl) (fun _ _ _ h => h) (Or.inr ⟨by rfl, rfl⟩) hH_ ?_; simp only [List.getElem_toArray, List.getElem_cons_succ, List.getElem_cons_zero, Act.put, List.setIfInBounds_toArray, List.set_cons_zero, List.set_cons_succ])
          (refine wpAnyH_take (i := 8) (v := undef) rfl (by kernel_rfl) (by kernel_rfl) (by kernel_rfl) (fun _ _ _ h => h) (Or.inr ⟨by rfl, rfl⟩) hH_ ?_; simp only [List.getElem_toArray, List.getElem_cons_succ, List.getElem_cons_zero, Act.put, List.setIfInBounds_toArray, List.set_cons_zero, List.set_cons_succ])
          (refine wpAnyH_take (i := 9) (v := undef) rfl (by kernel_rfl) (by kernel_rfl) (by kernel_rfl) (fun _ _ _ h => h) (Or.inr ⟨by rfl, rfl⟩) hH_ ?_; simp only [List.getElem_toArray, List.getElem_cons_succ, List.getElem_cons_zero, Act.put, List.setIfInBounds_toArray, List.set_cons_zero, List.set_cons_succ])
          (refine wpAnyH_take (i := 10) (v := undef) rfl (by kernel_rfl) (by kernel_rfl) (by kernel_rfl) (fun _ _ _ h => h) (Or.inr ⟨by rfl, rfl⟩) hH_ ?_; simp only [List.getElem_toArray, List.getElem_cons_succ, List.getElem_cons_zero, Act.put, List.setIfInBounds_toArray, List.set_cons_zero, List.set_cons_succ])
          (refine wpAnyH_take (i := 11) (v := undef) rfl (by kernel_rfl) (by kernel_rfl) (by kernel_rfl) (fun _ _ _ h => h) (Or.inr ⟨by rfl, rfl⟩) hH_ ?_; simp only [List.getElem_toArray, List.getElem_cons_succ, List.getElem_cons_zero, Act.put, List.setIfInBounds_toArray, List.set_cons_zero, List.set_cons_succ])
          (refine wpAnyH_take (i := 12) (v := ?_) rfl (by kernel_rfl) (by kernel_rfl) (by kernel_rfl) (fun _ _ _ h => h) (Or.inl ⟨by rfl, ?_⟩) hH_ ?_; rotate_left; (focus (intro w_ hSw_; go_simp; try (with_reducible rfl))); simp only [List.getElem_toArray, List.getElem_cons_succ, List.getElem_cons_zero, Act.put, List.setIfInBounds_toArray, List.set_cons_zero, List.set_cons_succ])
          refine wpAnyH_done (by kernel_rfl) ?_ _
          have H7 := hH_.tail
          have HOK2 : Aside0 (laminalaw02_DiskLast.Ok (k + 1) d) := ⟨HOK.out.1, HOK.out.2.1, HOK.out.2.2.1, by have := HOK.out.2.2.2; omega⟩
          clear hH_ H6 hkb
          go_wp2_with fail; go_loopw [73] (fun v73 wr => ∃ j : Nat, j ≤ 6 ∧ v73 = .int .i64 j ∧ Cx w.heap.size w wr [.blk g (.cells (u8A (flat6 (d).view)) 46 (0, 0)), .own dkR (.pointer (some ⟨b, 0, none⟩)) (d)]) (fun v73 _ => 6 - (intOf v73).toNat)
          case atStart => exact ⟨0, by omega, rfl, H7⟩
          case round =>
            clear H7
            obtain ⟨j, hj, rfl, HL⟩ := hrel
            by_cases hjl : j < 6
            · have hj0 : (0 : Int) ≤ (j : Int) := by omega
              have hj1 : (j : Int) < 6 := by omega
              have hrv : (d).read (j : Int) = ((d).view (j : Int), none) := Dk.read_view (HOK2).out.1 (by unfold Dk.has; rw [(HOK2).out.2.2.1]; exact decide_eq_true ⟨hj0, hj1⟩)
              have hvl := Dk.view_len HL (d := d) (by repeat (with_reducible (first | exact At.here | apply At.there)))
              have HVL := Aside0.mk hvl
              have HRV := Aside0.mk hrv
              clear hvl hrv
              go_wp2_with fail
              refine (dk_read (d := d) (j : Int) (by simp [Lit.wf, IntKind.min, IntKind.max, IntKind.signed, IntKind.bits]; omega) HL (by repeat (with_reducible (first | exact At.here | apply At.there))) (by have := (HOK2).out.2.2.2; omega)).mono ?_
              rintro e w20 ⟨rfl, H20⟩
              clear HL
              rw [HRV.out, errW_none]
              have F : True := trivial
              go_wp2_with ((((with_reducible refine gate_store (t := 34) (x := .tmp 10) (y := .tmp 80) rfl ?_); (apply Cx.atList); (focus ((repeat (with_reducible (first | exact (H20).toS | exact At.here | apply At.there | apply CxS.drewN | apply CxS.drew | apply CxS.alloc | apply CxS.set | apply CxS.setRow))))); intro HT_; refine wpList_store_row rfl 34 (.tmp 10) (.tmp 80) rfl (w20.heap.size) (u8A ((d).view (j : Int))) rfl rfl _ _ (HT_.blk (by repeat (with_reducible (first | exact At.here | apply At.there)))) (dk_isz (HVL.out _)) (by rw [u8A_size, u8A_size, sz0_len, HVL.out]) (u8A_one _) ?_; clear HT_); clear F; (apply Cx.genList); (focus ((repeat (with_reducible (first | exact (H20).toS | exact At.here | apply At.there | apply CxS.drewN | apply CxS.drew | apply CxS.alloc | apply CxS.set | apply CxS.setRow))))); clear H20; intro w21 H21; have F := (H21).facts; simp only [factsOf, Asr.facts, blkFacts, cellsAre, List.toList_toArray, forall_const, Nat.zero_add, Nat.reduceAdd, and_true, true_and] at F))
              clear F
              have heq : ∀ W, (Op.equalIn 10000 34 (.agg (((d).view (j : Int)).map (Value.int .u8)).toArray) (.agg (((d).view (j : Int)).map (Value.int .u8)).toArray)).run Try.prog W = .ok true W := fun W => by have := dk_eql _ _ (HVL.out (j : Int)) (HVL.out (j : Int)) W; rwa [decide_eq_true rfl] at this
              have hi1 : (Try.prog.info? 34).map (·.size) = some (((d).view (j : Int)).map (Value.int .u8)).length := by rw [List.length_map, HVL.out]; exact dk_info
              refine wp_region_held_drew (S := fun W => Cx w.heap.size w W [.blk w20.heap.size (.cells (u8A ((d).view (j : Int))) 34 (0, 0)), .blk g (.cells (u8A (flat6 (d).view)) 46 (0, 0)), .own dkR (.pointer (some ⟨b, 0, none⟩)) (d)]) (by kernel_rfl) ((H21.toS.drew).cx) (fun hH_ => ?_)
              clear H21
              (refine wpAnyH_take (i := 0) (v := ?_) rfl (by kernel_rfl) (by kernel_rfl) (by kernel_rfl) (fun _ _ _ h => h) (Or.inl ⟨by rfl, ?_⟩) hH_ ?_; rotate_left; (focus (intro w_ hSw_; go_simp; try (with_reducible rfl))); simp only [List.getElem_toArray, List.getElem_cons_succ, List.getElem_cons_zero, Act.put, List.setIfInBounds_toArray, List.set_cons_zero, List.set_cons_succ])
              (refine wpAnyH_take (i := 1) (v := ?_) rfl (by kernel_rfl) (by kernel_rfl) (by kernel_rfl) (fun _ _ _ h => h) (Or.inl ⟨by rfl, ?_⟩) hH_ ?_; rotate_left; (focus (intro w_ hSw_; go_simp; try (with_reducible rfl))); simp only [List.getElem_toArray, List.getElem_cons_succ, List.getElem_cons_zero, Act.put, List.setIfInBounds_toArray, List.set_cons_zero, List.set_cons_succ])
              (refine wpAnyH_take (i := 2) (v := ?_) rfl (by kernel_rfl) (by kernel_rfl) (by kernel_rfl) (fun _ _ _ h => h) (Or.inl ⟨by rfl, ?_⟩) hH_ ?_; rotate_left; (focus (intro w_ hSw_; go_simp; try (with_reducible rfl))); simp only [List.getElem_toArray, List.getElem_cons_succ, List.getElem_cons_zero, Act.put, List.setIfInBounds_toArray, List.set_cons_zero, List.set_cons_succ])
              (refine wpAnyH_take (i := 3) rfl (by kernel_rfl) (by kernel_rfl) (by kernel_rfl) (fun _ _ _ h => h) (yieldsIf_load_mid (by rfl) 34 (.tmp 10) rfl (w20.heap.size) (0) rfl (((d).view (j : Int)).map (Value.int .u8)) _ (fun W h => rangeAt_u8A (h.blk At.here)) Try.underlying34 rfl (hi1)) hH_ ?_; simp only [List.getElem_toArray, List.getElem_cons_succ, List.getElem_cons_zero, Act.put, List.setIfInBounds_toArray, List.set_cons_zero, List.set_cons_succ])
              (refine wpAnyH_take (i := 4) (v := ?_) rfl (by kernel_rfl) (by kernel_rfl) (by kernel_rfl) (fun _ _ _ h => h) (Or.inl ⟨by rfl, ?_⟩) hH_ ?_; rotate_left; (focus (intro w_ hSw_; go_simp; try (with_reducible rfl))); simp only [List.getElem_toArray, List.getElem_cons_succ, List.getElem_cons_zero, Act.put, List.setIfInBounds_toArray, List.set_cons_zero, List.set_cons_succ])
              (refine wpAnyH_take (i := 5) (v := ?_) rfl (by kernel_rfl) (by kernel_rfl) (by kernel_rfl) (fun _ _ _ h => h) (Or.inl ⟨by rfl, ?_⟩) hH_ ?_; rotate_left; (focus (intro w_ hSw_; go_simp; try (with_reducible rfl))); simp only [List.getElem_toArray, List.getElem_cons_succ, List.getElem_cons_zero, Act.put, List.setIfInBounds_toArray, List.set_cons_zero, List.set_cons_succ])
              (refine wpAnyH_take (i := 6) rfl (by kernel_rfl) (by kernel_rfl) (by kernel_rfl) (fun _ _ _ h => h) (yieldsIf_load_mid (by rfl) 34 (.tmp 87) rfl (g) (j * 128) rfl (((d).view (j : Int)).map (Value.int .u8)) _ (fun W h => h.six (At.there At.here) HVL.out j hjl) Try.underlying34 rfl (hi1)) hH_ ?_; simp only [List.getElem_toArray, List.getElem_cons_succ, List.getElem_cons_zero, Act.put, List.setIfInBounds_toArray, List.set_cons_zero, List.set_cons_succ])
              (refine wpAnyH_take (i := 7) (v := ?_) rfl (by kernel_rfl) (by kernel_rfl) (by kernel_rfl) (fun _ _ _ h => h) (Or.inl ⟨by rfl, ?_⟩) hH_ ?_; rotate_left; (focus (intro w_ hSw_; go_simp; try (with_reducible rfl))); simp only [List.getElem_toArray, List.getElem_cons_succ, List.getElem_cons_zero, Act.put, List.setIfInBounds_toArray, List.set_cons_zero, List.set_cons_succ])
              (refine wpAnyH_take (i := 8) (v := ?_) rfl (by kernel_rfl) (by kernel_rfl) (by kernel_rfl) (fun _ _ _ h => h) (Or.inl ⟨by rfl, ?_⟩) hH_ ?_; rotate_left; (focus (intro w_ hSw_; go_simp; try (with_reducible rfl))); simp only [List.getElem_toArray, List.getElem_cons_succ, List.getElem_cons_zero, Act.put, List.setIfInBounds_toArray, List.set_cons_zero, List.set_cons_succ])
              refine wpAnyH_done (by kernel_rfl) ?_ _
              go_wp2
              exact ⟨⟨j + 1, by omega, by go_num, hH_.tail⟩, by simp [intOf]; omega⟩
            · obtain rfl : j = 6 := by omega
              go_wp2
              exact ⟨⟨k + 1, d, by omega, by go_num, HOK2, HL⟩, by simp [intOf]; omega⟩
    · obtain rfl : k = l0.length := by omega
      go_wp2_with fail
      refine (dk_down H5 (by repeat (with_reducible (first | exact At.here | apply At.there)))).mono ?_
      rintro e w6 ⟨rfl, rfl⟩
      rw [HOK.out.1]
      go_wp2
      go_ret
      exact ⟨by first | rfl | trivial, H5.bel⟩

end Go.Proofs.Ytjoledofiindcaa.Hp
