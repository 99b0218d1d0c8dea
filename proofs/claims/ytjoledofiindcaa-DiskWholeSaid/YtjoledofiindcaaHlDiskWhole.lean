/- Contracts of functions of the given program, and what they lean on: written by this session's own program, out of hand texts laid into the kit's printer. -/
import Derived.Test.YtjoledofiindcaaHp0
import Derived.Test.YtjoledofiindcaaHg1
import Derived.Test.YtjoledofiindcaaHg2
import Derived.Test.YtjoledofiindcaaHg3
import Derived.Test.YtjoledofiindcaaHg4
namespace Go.Proofs.Ytjoledofiindcaa.Hp
open Go.RowKit Go.Proofs.YtjoledofiindcaaW.PrintWords Go.Proofs.YtjoledofiindcaaW.PrintLast Go.Proofs.YtjoledofiindcaaW.PrintMore
attribute [local go_sem] max2_int min2_int max_two min_two max_three min_three max_four min_four   -- for this text's walks alone
set_option linter.unusedVariables false
set_option linter.unusedSimpArgs false

/-! ### laminalaw02_DiskWhole: function 3 -/
-- needs: Cx.mayOpen WhOk dk_write dk_flush dk_crash dk_read dk_sure dk_waiting dk_down dk_full dk_new Cx.stepOff Cx.stepOne step_load_mid rangeAt_blk step_exec exec_load_cell numI
set_option maxRecDepth 100000 in
set_option maxHeartbeats 8000000 in
theorem laminalaw02_DiskWhole.law (A0 : Option Addr) (c0 : Nat) (l0 : List S36) (A9 : Option Addr) (c9 : Nat) (l1 : List Bool) (w : World) (hr0 : Kd.C k36 w A0 l0.length l0) (hc0 : l0.length ≤ c0) (_hy0 : l0.length * 48 ≤ 140737488351232) (hg : laminalaw02_full.OpsOk l0)
    (hr1 : Kd.C Kd.bool w A9 l1.length l1) (hc1 : l1.length ≤ c9) (_hy1 : l1.length * 1 ≤ 140737488351232) (_hg1 : ∀ n ∈ l1, True) :
    Calls Try.prog 3 #[.slice A0 l0.length c0, .slice A9 l1.length c9] w fun e w' => e = .returned (.bool true) ∧ Below w.heap.size w w' := by
  have hz := dk_zero
  have hz6 := may_zero
  have h26 := Try.underlying26
  have h28 := Try.underlying28
  have hu36 := Try.underlying36
  have H0 := Cx.start w
  have HR0 := Aside0.mk hr0
  have HC0 := Aside0.mk hc0
  have HG := Aside0.mk hg
  have HR1 := Aside0.mk hr1
  have HC1 := Aside0.mk hc1
  clear hr0 hc0 hg hr1 hc1 _hg1
  go_enter Try.func3, Try.ntmps3
  go_wp2_with fail
  refine (laminalaw02_alive.calls w).mono ?_
  rintro e w1 ⟨rfl, hb⟩
  have H1 := H0.below hb
  clear H0 hb
  go_wp2_with fail
  refine (laminalaw02_full.long_calls A0 c0 l0 _ (Kd.C_below HR0.out H1.bel) HC0.out).mono ?_
  rintro e w2 ⟨r, rfl, hp, hb⟩
  have H2 := H1.below hb
  clear H1 hb
  cases r
  case true =>
    go_wp2
    ((try simp only [Exit.inBlock, Exit.then]); (apply Cx.atPost); (focus ((repeat (with_reducible (first | exact (H2).toS | exact At.here | apply At.there | apply CxS.drewN | apply CxS.drew | apply CxS.alloc | apply CxS.set | apply CxS.setRow))))); intro H3)
    go_ret
    exact ⟨by first | rfl | trivial, H3.bel⟩
  have hlen := (hp rfl).1
  clear hp
  by_cases h300 : 300 < (l1.length : Int)
  · go_wp2
    ((try simp only [Exit.inBlock, Exit.then]); (apply Cx.atPost); (focus ((repeat (with_reducible (first | exact (H2).toS | exact At.here | apply At.there | apply CxS.drewN | apply CxS.drew | apply CxS.alloc | apply CxS.set | apply CxS.setRow))))); intro H3)
    go_ret
    exact ⟨by first | rfl | trivial, H3.bel⟩
  go_wp2_with fail
  refine (dk_new 6 H2 (by decide)).mono ?_
  rintro e w3 ⟨b, rfl, H3⟩
  clear H2
  have HC := H3
  clear H3
  (try dsimp only); (repeat (first | (with_reducible refine gate_stop (id := 8) ?_) | go_step)); refine Halted.go ?_
  refine wp_region_lit ?_
  (refine wpl_take (Or.inl ⟨by rfl, fun w_ _ => exec_build 32 #[] rfl #[] rfl (may_build _)⟩) ?_)
  (try simp only [List.getElem_toArray, List.getElem_cons_succ, List.getElem_cons_zero, Act.put, List.setIfInBounds_toArray, List.set_cons_zero, List.set_cons_succ])
  refine wpl_exec (fun K hK => ?_)
  refine st_alloc (z := .agg (may6 fun _ => .slice none 0 0)) HC (by rfl) 32 (by rfl) (by kernel_rfl) (fun g7 w_ Hn_ => ?_)
  clear HC
  have HC := Hn_
  clear Hn_
  (try simp only [Value.cells] at HC)
  refine hK.out _ _ ?_
  clear hK K
  (try simp only [List.getElem_toArray, List.getElem_cons_succ, List.getElem_cons_zero, Act.put, List.setIfInBounds_toArray, List.set_cons_zero, List.set_cons_succ])
  refine wpl_exec (fun K hK => ?_)
  refine st_storerow HC (by rfl) 32 _ _ (by rfl) (by rfl) (by simp only [Act.eval, Array.getD_eq_getD_getElem?, List.getElem?_toArray, List.getElem?_cons_succ, List.getElem?_cons_zero, Option.getD_some] <;> first | done | exact rfl) (by repeat (with_reducible (first | exact At.here | apply At.there))) (by rfl) (by kernel_rfl) (by first | rfl | decide | kernel_rfl) (fun w_ Hn_ => ?_)
  clear HC
  have HC := Hn_
  clear Hn_
  (try simp only [List.setIfInBounds_toArray, List.set_cons_zero, List.set_cons_succ] at HC)
  refine hK.out _ _ ?_
  clear hK K
  (try simp only [List.getElem_toArray, List.getElem_cons_succ, List.getElem_cons_zero, Act.put, List.setIfInBounds_toArray, List.set_cons_zero, List.set_cons_succ])
  refine wpList_nil ?_
  (try simp only [Exit.then, Exit.inBlock])
  have H4 := HC
  clear HC
  have hu32 := Try.underlying32
  have H5 : Cx w.heap.size w _ (.blk g7 (.cells (may6 fun _ => .slice none 0 0) 32 (0, 0)) :: mayP (fun _ => .slice none 0 0) (fun _ => []) [.own dkR (.pointer (some ⟨b, 0, none⟩)) (Dk.new 6)]) :=
    ((((((H4.offNil 34 128 secE).offNil 34 128 secE).offNil 34 128 secE).offNil 34 128 secE).offNil 34 128 secE).offNil 34 128 secE).find (by repeat (with_reducible (first | exact At.here | apply At.there)))
  clear H4
  (try dsimp only); (repeat (first | (with_reducible refine gate_loop ?_) | go_step)); refine Halted.go ?_
  go_loopw [36] (fun v36 wr => ∃ (k : Nat) (V : Nat → Value), k ≤ 6 ∧ v36 = .int .i64 k ∧ Cx w.heap.size w wr (.blk g7 (.cells (may6 V) 32 (0, 0)) :: mayP V (fun i => if i < k then [sz0] else []) [.own dkR (.pointer (some ⟨b, 0, none⟩)) (Dk.new 6)])) (fun v36 _ => 6 - (intOf v36).toNat)
  case atStart => exact ⟨0, _, by omega, rfl, H5⟩
  case round =>
    clear H5
    obtain ⟨k, V, hk, rfl, HL⟩ := hrel
    by_cases hk6 : k < 6
    · have k0 : (0 : Int) ≤ (k : Int) := by omega
      have k1 : (k : Int) < 6 := by omega
      have hc7 := (cell_of (HL.blk (b := g7) At.here) k).trans (may6_at V k hk6)
      have hf7 := frozen_of (HL.blk (b := g7) At.here) k
      have hlt7 := HL.low (b := g7) At.here
      have HC := HL
      clear HL
      (try dsimp only); (repeat (first | (with_reducible refine gate_stop (id := 12) ?_) | go_step)); refine Halted.go ?_
      refine wp_region_lit ?_
      (refine wpl_take (v := ?_) (Or.inl ⟨by rfl, ?_⟩) ?_; rotate_left; (focus (intro w_ _; go_simp; try (with_reducible rfl))))
      (try simp only [List.getElem_toArray, List.getElem_cons_succ, List.getElem_cons_zero, Act.put, List.setIfInBounds_toArray, List.set_cons_zero, List.set_cons_succ])
      (refine wpl_take (Or.inl ⟨by rfl, fun w_ _ => exec_build 34 #[] rfl #[] rfl (dk_zerob _)⟩) ?_)
      (try simp only [List.getElem_toArray, List.getElem_cons_succ, List.getElem_cons_zero, Act.put, List.setIfInBounds_toArray, List.set_cons_zero, List.set_cons_succ])
      refine wpl_exec (fun K hK => ?_)
      refine st_bslice1 (v := .agg (u8A sz0)) (z := .agg (u8A sz0)) (n := 128) HC (by rfl) 31 _ (by rfl) (by rfl) Try.underlying31 (by kernel_rfl) (by rfl) (by rfl) (by decide) (by decide) (fun g40 w_ Hn_ => ?_)
      clear HC
      have HC := Hn_
      clear Hn_
      simp only [Value.cells] at HC
      refine hK.out _ _ ?_
      clear hK K
      (try simp only [List.getElem_toArray, List.getElem_cons_succ, List.getElem_cons_zero, Act.put, List.setIfInBounds_toArray, List.set_cons_zero, List.set_cons_succ])
      (refine wpl_take (v := ?_) (Or.inl ⟨by rfl, ?_⟩) ?_; rotate_left; (focus (intro w_ _; go_simp; try (with_reducible rfl))))
      (try simp only [List.getElem_toArray, List.getElem_cons_succ, List.getElem_cons_zero, Act.put, List.setIfInBounds_toArray, List.set_cons_zero, List.set_cons_succ])
      refine wpl_exec (fun K hK => ?_)
      refine st_store HC (by rfl) 31 _ _ (by rfl) (by rfl) (by simp only [Act.eval, Array.getD_eq_getD_getElem?, List.getElem?_toArray, List.getElem?_cons_succ, List.getElem?_cons_zero, Option.getD_some] <;> first | done | exact rfl) (by repeat (with_reducible (first | exact At.here | apply At.there))) (by first | decide | (simp; done) | (simp; omega)) (by rfl) (by kernel_rfl) (fun w_ Hn_ => ?_)
      clear HC
      have HC := Hn_
      clear Hn_
      (try simp only [List.setIfInBounds_toArray, List.set_cons_zero, List.set_cons_succ] at HC)
      refine hK.out _ _ ?_
      clear hK K
      (try simp only [List.getElem_toArray, List.getElem_cons_succ, List.getElem_cons_zero, Act.put, List.setIfInBounds_toArray, List.set_cons_zero, List.set_cons_succ])
      refine wpList_nil ?_
      (try simp only [Exit.then, Exit.inBlock])
      rw [may6_set _ _ k hk6] at HC
      have H7 := (HC.find (a := .blk g40 _) (At.there At.here)).offLit (e := 34) (sz := 128) (enc := secE) [sz0] At.here (by simp [u8A]) (fun x hx => by rw [List.mem_singleton] at hx; subst hx; simp [sz0]) (by simp)
      simp only [List.length_cons, List.length_nil, Nat.zero_add] at H7
      obtain ⟨rest, H8, hcl⟩ := (Cx.sub (l := mayP V (fun i => if i < k then [sz0] else []) [.own (offR 34 128 secE) (.slice (some ⟨g40, 0, none⟩) 1 1) [sz0], .blk g7 (.cells (may6 (updV V k (.slice (some ⟨g40, 0, none⟩) 1 1))) 32 (0, 0)), .own dkR (.pointer (some ⟨b, 0, none⟩)) (Dk.new 6)]) H7 (by repeat (with_reducible (first | exact Subl.refl | exact Subl.nil | refine Subl.take (by repeat (with_reducible (first | exact At.here | apply At.there))) ?_ | refine Subl.skip ?_)))).mayOpen k hk6
      have H9 := hcl (v' := .slice (some ⟨g40, 0, none⟩) 1 1) (ys := [sz0]) (r' := [.blk g7 (.cells (may6 (updV V k (.slice (some ⟨g40, 0, none⟩) 1 1))) 32 (0, 0)), .own dkR (.pointer (some ⟨b, 0, none⟩)) (Dk.new 6)]) (Cx.sub (H8.tail.find (At.here.app rest)) (Subl.refl))
      have hx : updV (fun i => if i < k then [sz0] else []) k [sz0] = fun i => if i < k + 1 then [sz0] else [] := by
        funext i
        simp only [updV]
        by_cases h1 : i = k
        · simp [h1]
        · by_cases h2 : i < k
          · simp [h1, h2, show i < k + 1 by omega]
          · simp [h1, h2, show ¬ i < k + 1 by omega]
      rw [hx] at H9
      have HX := Aside0.mk H9
      clear hx H7 H8 hcl HC H9
      go_wp2
      exact ⟨⟨k + 1, _, by omega, by go_num, Cx.sub HX.out (by repeat (with_reducible (first | exact Subl.refl | exact Subl.nil | refine Subl.take (by repeat (with_reducible (first | exact At.here | apply At.there))) ?_ | refine Subl.skip ?_)))⟩, by simp [intOf]; omega⟩
    · obtain rfl : k = 6 := by omega
      have HL' : Cx w.heap.size w wr (.blk g7 (.cells (may6 V) 32 (0, 0)) :: mayP V (fun _ => [sz0]) [.own dkR (.pointer (some ⟨b, 0, none⟩)) (Dk.new 6)]) := HL
      clear HL
      (try simp only [Int.cast_ofNat_Int])
      (try dsimp only); (repeat (first | (with_reducible refine gate_loop ?_) | go_step)); refine Halted.go ?_
      go_loopw [46] (fun v46 wr => ∃ (k : Nat) (d : Dk) (V : Nat → Value) (x : Nat → List (List Int)), k ≤ l0.length ∧ v46 = .int .i64 k ∧ Aside0 (WhOk k d x) ∧ Cx w.heap.size w wr (.blk g7 (.cells (may6 V) 32 (0, 0)) :: mayP V x [.own dkR (.pointer (some ⟨b, 0, none⟩)) d])) (fun v46 _ => l0.length - (intOf v46).toNat)
      case atStart => exact ⟨0, _, _, _, by omega, rfl, ⟨WhOk.new⟩, HL'⟩
      case round =>
        clear HL'
        obtain ⟨j, d, V, x, hj, rfl, HOK, HC⟩ := hrel
        by_cases hlt : j < l0.length
        · have h0 : (0 : Int) ≤ (j : Int) := by omega
          have h1 : (j : Int) < (l0.length : Int) := by omega
          obtain ⟨ad, A3, c3, rfl, t0, t1, t2, t3, hl3, g3⟩ := at_T36 HR0.out (j : Int) h0 h1
          obtain ⟨hf0, hf1, hmem⟩ := laminalaw02_full.ok_at HG.out j hlt
          replace t0 := (HC.bel.cell (World.block_lt_of_cell? w _ t0)).trans t0
          replace t1 := (HC.bel.cell (World.block_lt_of_cell? w _ t1)).trans t1
          replace t2 := (HC.bel.cell (World.block_lt_of_cell? w _ t2)).trans t2
          replace t3 := (HC.bel.cell (World.block_lt_of_cell? w _ t3)).trans t3
          simp only [Int.toNat_natCast] at t0 t1 t2 t3
          obtain ⟨o, hx⟩ : ∃ o, o = rd_T36 l0 (j : Int) := ⟨_, rfl⟩
          rw [← hx] at t0 t1 t2 t3 hf0 hf1 g3
          have HF1 := Aside0.mk hf1
          clear hx hmem hl3 g3 hf0 hf1
          have hok := HOK.out
          have hpw := Dk.off_no hok.1 hok.2.1
          have hcnt := hok.2.2.2.1
          have hsz := hok.2.2.1
          have hx6 := hok.2.2.2.2
          have HPW := Aside0.mk hpw
          have HCNT := Aside0.mk hcnt
          have HSZ := Aside0.mk hsz
          have HX6 := Aside0.mk hx6
          clear hok hpw hcnt hsz hx6
          by_cases c1 : o.f0 = 1
          · have hh : d.has o.f1 = decide (0 ≤ o.f1 ∧ o.f1 < 6) := by unfold Dk.has; rw [HSZ.out]
            (try dsimp only); (repeat (first | (with_reducible refine gate_stop (id := 19) ?_) | go_step)); refine Halted.go ?_
            ((first | apply Cx.genCall | apply Cx.genCode | apply Cx.genList); (focus ((repeat (with_reducible (first | exact (HC).toS | exact At.here | apply At.there | apply CxS.drewN | apply CxS.drew | apply CxS.alloc | apply CxS.set | apply CxS.setRow))))); clear HC; intro wc HD)
            (try simp only [List.setIfInBounds_toArray, List.set_cons_zero, List.set_cons_succ] at HD)
            generalize wr.heap.size = g10 at *
            clear t0 t1 t2 t3
            have HC := HD
            clear HD
            by_cases hin : 0 ≤ o.f1 ∧ o.f1 < 6
            · obtain ⟨n, hn⟩ := Int.eq_ofNat_of_zero_le hin.1
              rw [hn] at hh hin
              have hn6 : n < 6 := by omega
              have hwE : errW (d.writeE (n : Int)) = .nilIface := by simp [Dk.writeE, hh, hin, HPW.out, errW]
              have HWE := Aside0.mk hwE
              rw [hn] at HC
              have HN := Aside0.mk hn
              have hwn : (Lit.int .i64 (n : Int)).wf = true := by rw [← hn]; exact HF1.out
              have HWN := Aside0.mk hwn
              have n0 : (0 : Int) ≤ (n : Int) := by omega
              have n1 : (n : Int) < 6 := by omega
              clear hn hh hwE hin hwn
              refine wp_region_Dx HC (by kernel_rfl) [.blk g10 (.cells #[.int .i64 1, .int .i64 (n : Int), .int .u8 o.f2, .slice A3 o.f3.length c3] 36 (0, 0))] [2, 4] (by repeat (with_reducible (first | exact Subl.refl | exact Subl.nil | refine Subl.take (by repeat (with_reducible (first | exact At.here | apply At.there))) ?_ | refine Subl.skip ?_))) (fun w_ Hn_ hS_ => ?_)
              clear HC
              have HC := Hn_
              clear Hn_
              (refine wpAnyD_take (i := 0) (v := ?_) rfl (by kernel_rfl) (fun _ _ _ h => h) (Or.inl ⟨by rfl, ?_⟩) (.inl hS_) ?_; rotate_left; (focus (intro w_ _; go_simp; try (with_reducible rfl))))
              (try simp only [List.getElem_toArray, List.getElem_cons_succ, List.getElem_cons_zero, Act.put, List.setIfInBounds_toArray, List.set_cons_zero, List.set_cons_succ])
              (refine wpAnyD_take (i := 1) (v := ?_) rfl (by kernel_rfl) (fun _ _ _ h => h) (Or.inl ⟨by rfl, ?_⟩) (.inl hS_) ?_; rotate_left; (focus (intro w_ _; go_simp; try (with_reducible rfl))))
              (try simp only [List.getElem_toArray, List.getElem_cons_succ, List.getElem_cons_zero, Act.put, List.setIfInBounds_toArray, List.set_cons_zero, List.set_cons_succ])
              (refine wpAnyD_load (i := 2) rfl (by kernel_rfl) (fun _ _ _ h => h) (yields_cell (by rfl) 3 _ (by rfl) (by rfl) (run_isAgg_plain Try.underlying3 rfl) (fun _ h => h) (by repeat (with_reducible (first | exact At.here | apply At.there))) (by rfl)) hS_ ?_)
              (try simp only [List.getElem_toArray, List.getElem_cons_succ, List.getElem_cons_zero, Act.put, List.setIfInBounds_toArray, List.set_cons_zero, List.set_cons_succ])
              (refine wpAnyD_take (i := 3) (v := ?_) rfl (by kernel_rfl) (fun _ _ _ h => h) (Or.inl ⟨by rfl, ?_⟩) (.inl hS_) ?_; rotate_left; (focus (intro w_ _; go_simp; try (with_reducible rfl))))
              (try simp only [List.getElem_toArray, List.getElem_cons_succ, List.getElem_cons_zero, Act.put, List.setIfInBounds_toArray, List.set_cons_zero, List.set_cons_succ])
              (refine wpAnyD_load (i := 4) rfl (by kernel_rfl) (fun _ _ _ h => h) (yields_cell (by rfl) 5 _ (by rfl) (by rfl) (run_isAgg_plain Try.underlying5 rfl) (fun _ h => h) (by repeat (with_reducible (first | exact At.here | apply At.there))) (by rfl)) hS_ ?_)
              (try simp only [List.getElem_toArray, List.getElem_cons_succ, List.getElem_cons_zero, Act.put, List.setIfInBounds_toArray, List.set_cons_zero, List.set_cons_succ])
              refine wpAnyD_exec (i := 5) (by kernel_rfl) rfl (fun K hK => ?_)
              go_simp
              refine (dk_full _ _).mono ?_
              rintro e_ w_ ⟨rfl, hb_⟩
              have Hn_ := HC.below hb_; clear hb_
              clear HC
              have HC := Hn_
              clear Hn_
              (try go_simp)
              refine hK.out _ _ (Or.inl (HC.sub (by repeat (with_reducible (first | exact Subl.refl | exact Subl.nil | refine Subl.take (by repeat (with_reducible (first | exact At.here | apply At.there))) ?_ | refine Subl.skip ?_))))) ?_
              clear hK K
              (try simp only [List.getElem_toArray, List.getElem_cons_succ, List.getElem_cons_zero, Act.put, List.setIfInBounds_toArray, List.set_cons_zero, List.set_cons_succ])
              clear hS_
              have hS_ := HC.sub (l := [.blk g10 (.cells #[.int .i64 1, .int .i64 (n : Int), .int .u8 o.f2, .slice A3 o.f3.length c3] 36 (0, 0))]) (by repeat (with_reducible (first | exact Subl.refl | exact Subl.nil | refine Subl.take (by repeat (with_reducible (first | exact At.here | apply At.there))) ?_ | refine Subl.skip ?_)))
              refine wpAnyD_exec (i := 6) (by kernel_rfl) rfl (fun K hK => ?_)
              go_simp
              refine (dk_write (d := d) (n : Int) (fullS o.f2) HWN.out HC (by repeat (with_reducible (first | exact At.here | apply At.there))) (fullS_len _) (by have := HCNT.out; omega)).mono ?_
              rintro e_ w_ ⟨rfl, Hn_⟩
              rw [HWE.out]
              clear HC
              have HC := Hn_
              clear Hn_
              (try go_simp)
              refine hK.out _ _ (Or.inr (by kernel_rfl)) ?_
              clear hK K
              (try simp only [List.getElem_toArray, List.getElem_cons_succ, List.getElem_cons_zero, Act.put, List.setIfInBounds_toArray, List.set_cons_zero, List.set_cons_succ])
              clear hS_
              refine wpAnyD_turn (S2 := fun _ => True) (I2 := [8]) _ _ _ _ (Or.inl (by kernel_rfl)) ?_
              have hS_ : True := trivial
              (refine wpAnyD_take (i := 7) (v := ?_) rfl (by kernel_rfl) (fun _ _ _ h => h) (Or.inl ⟨by rfl, ?_⟩) (.inl trivial) ?_; rotate_left; (focus (intro w_ _; go_simp; try (with_reducible rfl))))
              (try simp only [List.getElem_toArray, List.getElem_cons_succ, List.getElem_cons_zero, Act.put, List.setIfInBounds_toArray, List.set_cons_zero, List.set_cons_succ])
              refine wpAnyD_done (by kernel_rfl) ?_ _
              clear hS_
              (try simp only [Exit.then, Exit.inBlock])
              have F := (HC).facts; simp only [factsOf, Asr.facts, blkFacts, cellsAre, List.toList_toArray, forall_const, Nat.zero_add, Nat.reduceAdd, and_true, true_and] at F
              (try dsimp only); (repeat (first | (with_reducible refine gate_stop (id := 22) ?_) | go_step)); refine Halted.go ?_
              clear F
              have hwo := (HOK.out).write n hn6 (fullS o.f2)
              have hxn := (HX6.out n hn6).1
              have hxl := (HX6.out n hn6).2.1
              have HWO := Aside0.mk hwo
              have HXN := Aside0.mk hxn
              have HXL := Aside0.mk hxl
              clear hwo hxn hxl
              refine wp_region_Dx HC (by kernel_rfl) [.blk g10 (.cells #[.int .i64 1, .int .i64 (n : Int), .int .u8 o.f2, .slice A3 o.f3.length c3] 36 (0, 0)), .blk g7 (.cells (may6 V) 32 (0, 0))] [1, 3, 5, 7] (by repeat (with_reducible (first | exact Subl.refl | exact Subl.nil | refine Subl.take (by repeat (with_reducible (first | exact At.here | apply At.there))) ?_ | refine Subl.skip ?_))) (fun w_ Hn_ hS_ => ?_)
              clear HC
              have HC := Hn_
              clear Hn_
              (refine wpAnyD_take (i := 0) (v := ?_) rfl (by kernel_rfl) (fun _ _ _ h => h) (Or.inl ⟨by rfl, ?_⟩) (.inl hS_) ?_; rotate_left; (focus (intro w_ _; go_simp; try (with_reducible rfl))))
              (try simp only [List.getElem_toArray, List.getElem_cons_succ, List.getElem_cons_zero, Act.put, List.setIfInBounds_toArray, List.set_cons_zero, List.set_cons_succ])
              (refine wpAnyD_load (i := 1) rfl (by kernel_rfl) (fun _ _ _ h => h) (yields_cell (by rfl) 3 _ (by rfl) (by rfl) (run_isAgg_plain Try.underlying3 rfl) (fun _ h => h) (by repeat (with_reducible (first | exact At.here | apply At.there))) (by rfl)) hS_ ?_)
              (try simp only [List.getElem_toArray, List.getElem_cons_succ, List.getElem_cons_zero, Act.put, List.setIfInBounds_toArray, List.set_cons_zero, List.set_cons_succ])
              (refine wpAnyD_take (i := 2) (v := ?_) rfl (by kernel_rfl) (fun _ _ _ h => h) (Or.inl ⟨by rfl, ?_⟩) (.inl hS_) ?_; rotate_left; (focus (intro w_ _; go_simp; try (with_reducible rfl))))
              (try simp only [List.getElem_toArray, List.getElem_cons_succ, List.getElem_cons_zero, Act.put, List.setIfInBounds_toArray, List.set_cons_zero, List.set_cons_succ])
              (refine wpAnyD_load (i := 3) rfl (by kernel_rfl) (fun _ _ _ h => h) (yields_cell (by rfl) 3 _ (by rfl) (by rfl) (run_isAgg_plain Try.underlying3 rfl) (fun _ h => h) (by repeat (with_reducible (first | exact At.here | apply At.there))) (by rfl)) hS_ ?_)
              (try simp only [List.getElem_toArray, List.getElem_cons_succ, List.getElem_cons_zero, Act.put, List.setIfInBounds_toArray, List.set_cons_zero, List.set_cons_succ])
              (refine wpAnyD_take (i := 4) (v := ?_) rfl (by kernel_rfl) (fun _ _ _ h => h) (Or.inl ⟨by rfl, ?_⟩) (.inl hS_) ?_; rotate_left; (focus (intro w_ _; go_simp; try (with_reducible rfl))))
              (try simp only [List.getElem_toArray, List.getElem_cons_succ, List.getElem_cons_zero, Act.put, List.setIfInBounds_toArray, List.set_cons_zero, List.set_cons_succ])
              (refine wpAnyD_load (i := 5) rfl (by kernel_rfl) (fun _ _ _ h => h) (yields_cell (by rfl) 31 _ (by rfl) (by rfl) (run_isAgg_plain Try.underlying31 rfl) (fun _ h => h) (by repeat (with_reducible (first | exact At.here | apply At.there))) (may6_at V n hn6)) hS_ ?_)
              (try simp only [List.getElem_toArray, List.getElem_cons_succ, List.getElem_cons_zero, Act.put, List.setIfInBounds_toArray, List.set_cons_zero, List.set_cons_succ])
              (refine wpAnyD_take (i := 6) (v := ?_) rfl (by kernel_rfl) (fun _ _ _ h => h) (Or.inl ⟨by rfl, ?_⟩) (.inl hS_) ?_; rotate_left; (focus (intro w_ _; go_simp; try (with_reducible rfl))))
              (try simp only [List.getElem_toArray, List.getElem_cons_succ, List.getElem_cons_zero, Act.put, List.setIfInBounds_toArray, List.set_cons_zero, List.set_cons_succ])
              (refine wpAnyD_load (i := 7) rfl (by kernel_rfl) (fun _ _ _ h => h) (yields_cell (by rfl) 5 _ (by rfl) (by rfl) (run_isAgg_plain Try.underlying5 rfl) (fun _ h => h) (by repeat (with_reducible (first | exact At.here | apply At.there))) (by rfl)) hS_ ?_)
              (try simp only [List.getElem_toArray, List.getElem_cons_succ, List.getElem_cons_zero, Act.put, List.setIfInBounds_toArray, List.set_cons_zero, List.set_cons_succ])
              refine wpAnyD_exec (i := 8) (by kernel_rfl) rfl (fun K hK => ?_)
              go_simp
              refine (dk_full _ _).mono ?_
              rintro e_ w_ ⟨rfl, hb_⟩
              have Hn_ := HC.below hb_; clear hb_
              clear HC
              have HC := Hn_
              clear Hn_
              (try go_simp)
              refine hK.out _ _ (Or.inl (HC.sub (by repeat (with_reducible (first | exact Subl.refl | exact Subl.nil | refine Subl.take (by repeat (with_reducible (first | exact At.here | apply At.there))) ?_ | refine Subl.skip ?_))))) ?_
              clear hK K
              (try simp only [List.getElem_toArray, List.getElem_cons_succ, List.getElem_cons_zero, Act.put, List.setIfInBounds_toArray, List.set_cons_zero, List.set_cons_succ])
              clear hS_
              have hS_ := HC.sub (l := [.blk g10 (.cells #[.int .i64 1, .int .i64 (n : Int), .int .u8 o.f2, .slice A3 o.f3.length c3] 36 (0, 0)), .blk g7 (.cells (may6 V) 32 (0, 0))]) (by repeat (with_reducible (first | exact Subl.refl | exact Subl.nil | refine Subl.take (by repeat (with_reducible (first | exact At.here | apply At.there))) ?_ | refine Subl.skip ?_)))
              refine wpAnyD_exec (i := 9) (by kernel_rfl) rfl (fun K hK => ?_)
              refine st_bslice1 (v := .agg (u8A (fullS o.f2))) (z := .agg (u8A sz0)) (n := 128) HC (by rfl) 31 _ (by rfl) (by rfl) Try.underlying31 (by kernel_rfl) (by rfl) (by rw [Value.cells, u8A_size, fullS_len]) (by decide) (by decide) (fun g79 w_ Hn_ => ?_)
              clear HC
              have HC := Hn_
              clear Hn_
              simp only [Value.cells] at HC
              refine hK.out _ _ (Or.inl (HC.sub (by repeat (with_reducible (first | exact Subl.refl | exact Subl.nil | refine Subl.take (by repeat (with_reducible (first | exact At.here | apply At.there))) ?_ | refine Subl.skip ?_))))) ?_
              clear hK K
              (try simp only [List.getElem_toArray, List.getElem_cons_succ, List.getElem_cons_zero, Act.put, List.setIfInBounds_toArray, List.set_cons_zero, List.set_cons_succ])
              clear hS_
              have hS_ := HC.sub (l := [.blk g10 (.cells #[.int .i64 1, .int .i64 (n : Int), .int .u8 o.f2, .slice A3 o.f3.length c3] 36 (0, 0)), .blk g7 (.cells (may6 V) 32 (0, 0))]) (by repeat (with_reducible (first | exact Subl.refl | exact Subl.nil | refine Subl.take (by repeat (with_reducible (first | exact At.here | apply At.there))) ?_ | refine Subl.skip ?_)))
              refine wpAnyD_exec (i := 10) (by kernel_rfl) rfl (fun K hK => ?_)
              obtain ⟨rest, H8, hcl⟩ := (Cx.sub (l := mayP V x [.blk g79 (.cells (u8A (fullS o.f2)) 34 (0, 0)), .blk g10 (.cells #[.int .i64 1, .int .i64 (n : Int), .int .u8 o.f2, .slice A3 o.f3.length c3] 36 (0, 0)), .blk g7 (.cells (may6 V) 32 (0, 0)), .own dkR (.pointer (some ⟨b, 0, none⟩)) (d.write (n : Int) (fullS o.f2))]) HC (by repeat (with_reducible (first | exact Subl.refl | exact Subl.nil | refine Subl.take (by repeat (with_reducible (first | exact At.here | apply At.there))) ?_ | refine Subl.skip ?_)))).mayOpen n hn6
              obtain ⟨A_, c_, hv, _, _, hA_⟩ := H8.offLen At.here
              obtain ⟨gv, ov, rfl, _⟩ := hA_ HXN.out
              rw [hv] at H8
              refine H8.stepOff (x n) (fullS o.f2) At.here (by rfl) (.tmp 75) (.tmp 79) 31 rfl Try.underlying31 sec_info3 (by rfl) (by decide) (by decide) (Eq.trans (by rfl) hv) (by rfl) (by simp [fullS]) (rangeAt_u8A (HC.blk (b := g79) (by repeat (with_reducible (first | exact At.here | apply At.there))))) (secE_one _) (by have := HXL.out; omega) ?_
              intro g' off' n' c' w_ hn' Hn_
              have Hn2_ := hcl Hn_
              clear HC Hn_ H8 hcl
              have HC := Hn2_
              clear Hn2_ hA_
              refine hK.out _ _ (Or.inl (HC.sub (by repeat (with_reducible (first | exact Subl.refl | exact Subl.nil | refine Subl.take (by repeat (with_reducible (first | exact At.here | apply At.there))) ?_ | refine Subl.skip ?_))))) ?_
              clear hK K
              (try simp only [List.getElem_toArray, List.getElem_cons_succ, List.getElem_cons_zero, Act.put, List.setIfInBounds_toArray, List.set_cons_zero, List.set_cons_succ])
              clear hS_
              have hS_ := HC.sub (l := [.blk g10 (.cells #[.int .i64 1, .int .i64 (n : Int), .int .u8 o.f2, .slice A3 o.f3.length c3] 36 (0, 0)), .blk g7 (.cells (may6 V) 32 (0, 0))]) (by repeat (with_reducible (first | exact Subl.refl | exact Subl.nil | refine Subl.take (by repeat (with_reducible (first | exact At.here | apply At.there))) ?_ | refine Subl.skip ?_)))
              refine wpAnyD_exec (i := 11) (by kernel_rfl) rfl (fun K hK => ?_)
              refine st_pure (v := ?_) (by rfl) ?_ ?_
              rotate_left
              focus (go_simp; try (with_reducible rfl))
              refine hK.out _ _ (Or.inr (by kernel_rfl)) ?_
              clear hK K
              (try simp only [List.getElem_toArray, List.getElem_cons_succ, List.getElem_cons_zero, Act.put, List.setIfInBounds_toArray, List.set_cons_zero, List.set_cons_succ])
              clear hS_
              refine wpAnyD_turn (S2 := fun _ => True) (I2 := [13]) _ _ _ _ (Or.inl (by kernel_rfl)) ?_
              have hS_ : True := trivial
              refine wpAnyD_exec (i := 12) (by kernel_rfl) rfl (fun K hK => ?_)
              refine st_store HC (by rfl) 31 _ _ (by rfl) (by rfl) (by simp only [Act.eval, Array.getD_eq_getD_getElem?, List.getElem?_toArray, List.getElem?_cons_succ, List.getElem?_cons_zero, Option.getD_some] <;> first | done | exact rfl) (by repeat (with_reducible (first | exact At.here | apply At.there))) (by first | decide | (simp; done) | (simp; omega)) (by rfl) (by kernel_rfl) (fun w_ Hn_ => ?_)
              clear HC
              have HC := Hn_
              clear Hn_
              (try simp only [List.setIfInBounds_toArray, List.set_cons_zero, List.set_cons_succ] at HC)
              refine hK.out _ _ (Or.inl trivial) ?_
              clear hK K
              (try simp only [List.getElem_toArray, List.getElem_cons_succ, List.getElem_cons_zero, Act.put, List.setIfInBounds_toArray, List.set_cons_zero, List.set_cons_succ])
              refine wpAnyD_done (by kernel_rfl) ?_ _
              clear hS_
              (try simp only [Exit.then, Exit.inBlock])
              have hst : (may6 V).setIfInBounds n (.slice (some ⟨g', off', none⟩) n' c') = may6 (updV V n (.slice (some ⟨g', off', none⟩) n' c')) := may6_set _ _ n hn6
              rw [hst] at HC
              clear hst
              have HX := Aside0.mk HC
              clear HC hv
              go_wp2
              exact ⟨⟨j + 1, _, _, _, by omega, by go_num, HWO, Cx.sub HX.out (by repeat (with_reducible (first | exact Subl.refl | exact Subl.nil | refine Subl.take (by repeat (with_reducible (first | exact At.here | apply At.there))) ?_ | refine Subl.skip ?_)))⟩, by simp [intOf]; omega⟩
            · have hh' : d.has o.f1 = false := by rw [hh]; exact decide_eq_false hin
              have hwE : errW (d.writeE o.f1) = errW (some 1) := by simp [Dk.writeE, hh', errW]
              have hwD : d.write o.f1 (fullS o.f2) = d := by simp [Dk.write, hh']
              have HWE := Aside0.mk hwE
              have HWD := Aside0.mk hwD
              clear hh hh' hwE hwD
              refine wp_region_Dx HC (by kernel_rfl) [.blk g10 (.cells #[.int .i64 1, .int .i64 o.f1, .int .u8 o.f2, .slice A3 o.f3.length c3] 36 (0, 0))] [2, 4] (by repeat (with_reducible (first | exact Subl.refl | exact Subl.nil | refine Subl.take (by repeat (with_reducible (first | exact At.here | apply At.there))) ?_ | refine Subl.skip ?_))) (fun w_ Hn_ hS_ => ?_)
              clear HC
              have HC := Hn_
              clear Hn_
              (refine wpAnyD_take (i := 0) (v := ?_) rfl (by kernel_rfl) (fun _ _ _ h => h) (Or.inl ⟨by rfl, ?_⟩) (.inl hS_) ?_; rotate_left; (focus (intro w_ _; go_simp; try (with_reducible rfl))))
              (try simp only [List.getElem_toArray, List.getElem_cons_succ, List.getElem_cons_zero, Act.put, List.setIfInBounds_toArray, List.set_cons_zero, List.set_cons_succ])
              (refine wpAnyD_take (i := 1) (v := ?_) rfl (by kernel_rfl) (fun _ _ _ h => h) (Or.inl ⟨by rfl, ?_⟩) (.inl hS_) ?_; rotate_left; (focus (intro w_ _; go_simp; try (with_reducible rfl))))
              (try simp only [List.getElem_toArray, List.getElem_cons_succ, List.getElem_cons_zero, Act.put, List.setIfInBounds_toArray, List.set_cons_zero, List.set_cons_succ])
              (refine wpAnyD_load (i := 2) rfl (by kernel_rfl) (fun _ _ _ h => h) (yields_cell (by rfl) 3 _ (by rfl) (by rfl) (run_isAgg_plain Try.underlying3 rfl) (fun _ h => h) (by repeat (with_reducible (first | exact At.here | apply At.there))) (by rfl)) hS_ ?_)
              (try simp only [List.getElem_toArray, List.getElem_cons_succ, List.getElem_cons_zero, Act.put, List.setIfInBounds_toArray, List.set_cons_zero, List.set_cons_succ])
              (refine wpAnyD_take (i := 3) (v := ?_) rfl (by kernel_rfl) (fun _ _ _ h => h) (Or.inl ⟨by rfl, ?_⟩) (.inl hS_) ?_; rotate_left; (focus (intro w_ _; go_simp; try (with_reducible rfl))))
              (try simp only [List.getElem_toArray, List.getElem_cons_succ, List.getElem_cons_zero, Act.put, List.setIfInBounds_toArray, List.set_cons_zero, List.set_cons_succ])
              (refine wpAnyD_load (i := 4) rfl (by kernel_rfl) (fun _ _ _ h => h) (yields_cell (by rfl) 5 _ (by rfl) (by rfl) (run_isAgg_plain Try.underlying5 rfl) (fun _ h => h) (by repeat (with_reducible (first | exact At.here | apply At.there))) (by rfl)) hS_ ?_)
              (try simp only [List.getElem_toArray, List.getElem_cons_succ, List.getElem_cons_zero, Act.put, List.setIfInBounds_toArray, List.set_cons_zero, List.set_cons_succ])
              refine wpAnyD_exec (i := 5) (by kernel_rfl) rfl (fun K hK => ?_)
              go_simp
              refine (dk_full _ _).mono ?_
              rintro e_ w_ ⟨rfl, hb_⟩
              have Hn_ := HC.below hb_; clear hb_
              clear HC
              have HC := Hn_
              clear Hn_
              (try go_simp)
              refine hK.out _ _ (Or.inl (HC.sub (by repeat (with_reducible (first | exact Subl.refl | exact Subl.nil | refine Subl.take (by repeat (with_reducible (first | exact At.here | apply At.there))) ?_ | refine Subl.skip ?_))))) ?_
              clear hK K
              (try simp only [List.getElem_toArray, List.getElem_cons_succ, List.getElem_cons_zero, Act.put, List.setIfInBounds_toArray, List.set_cons_zero, List.set_cons_succ])
              clear hS_
              have hS_ := HC.sub (l := [.blk g10 (.cells #[.int .i64 1, .int .i64 o.f1, .int .u8 o.f2, .slice A3 o.f3.length c3] 36 (0, 0))]) (by repeat (with_reducible (first | exact Subl.refl | exact Subl.nil | refine Subl.take (by repeat (with_reducible (first | exact At.here | apply At.there))) ?_ | refine Subl.skip ?_)))
              refine wpAnyD_exec (i := 6) (by kernel_rfl) rfl (fun K hK => ?_)
              go_simp
              refine (dk_write (d := d) o.f1 (fullS o.f2) HF1.out HC (by repeat (with_reducible (first | exact At.here | apply At.there))) (fullS_len _) (by have := HCNT.out; omega)).mono ?_
              rintro e_ w_ ⟨rfl, Hn_⟩
              rw [HWE.out]; rw [HWD.out] at Hn_; simp only [errW]
              clear HC
              have HC := Hn_
              clear Hn_
              (try go_simp)
              refine hK.out _ _ (Or.inr (by kernel_rfl)) ?_
              clear hK K
              (try simp only [List.getElem_toArray, List.getElem_cons_succ, List.getElem_cons_zero, Act.put, List.setIfInBounds_toArray, List.set_cons_zero, List.set_cons_succ])
              clear hS_
              refine wpAnyD_turn (S2 := fun _ => True) (I2 := [8]) _ _ _ _ (Or.inl (by kernel_rfl)) ?_
              have hS_ : True := trivial
              (refine wpAnyD_take (i := 7) (v := ?_) rfl (by kernel_rfl) (fun _ _ _ h => h) (Or.inl ⟨by rfl, ?_⟩) (.inl trivial) ?_; rotate_left; (focus (intro w_ _; go_simp; try (with_reducible rfl))))
              (try simp only [List.getElem_toArray, List.getElem_cons_succ, List.getElem_cons_zero, Act.put, List.setIfInBounds_toArray, List.set_cons_zero, List.set_cons_succ])
              refine wpAnyD_done (by kernel_rfl) ?_ _
              clear hS_
              (try simp only [Exit.then, Exit.inBlock])
              have HX := Aside0.mk HC
              clear HC
              go_wp2
              exact ⟨⟨j + 1, _, _, _, by omega, by go_num, ⟨HOK.out.mono⟩, Cx.sub HX.out (by repeat (with_reducible (first | exact Subl.refl | exact Subl.nil | refine Subl.take (by repeat (with_reducible (first | exact At.here | apply At.there))) ?_ | refine Subl.skip ?_)))⟩, by simp [intOf]; omega⟩
          · by_cases c2 : o.f0 = 2
            · have hfE : errW d.offE = .nilIface := by simp [Dk.offE, HPW.out, errW]
              have HFE := Aside0.mk hfE
              clear hfE
              (try dsimp only); (repeat (first | (with_reducible refine gate_stop (id := 24) ?_) | go_step)); refine Halted.go ?_
              ((first | apply Cx.genCall | apply Cx.genCode | apply Cx.genList); (focus ((repeat (with_reducible (first | exact (HC).toS | exact At.here | apply At.there | apply CxS.drewN | apply CxS.drew | apply CxS.alloc | apply CxS.set | apply CxS.setRow))))); clear HC; intro wc HD)
              (try simp only [List.setIfInBounds_toArray, List.set_cons_zero, List.set_cons_succ] at HD)
              generalize wr.heap.size = g10 at *
              clear t0 t1 t2 t3
              have HC := HD
              clear HD
              refine wp_region_lit ?_
              (refine wpl_take (v := ?_) (Or.inl ⟨by rfl, ?_⟩) ?_; rotate_left; (focus (intro w_ _; go_simp; try (with_reducible rfl))))
              (try simp only [List.getElem_toArray, List.getElem_cons_succ, List.getElem_cons_zero, Act.put, List.setIfInBounds_toArray, List.set_cons_zero, List.set_cons_succ])
              refine wpl_exec (fun K hK => ?_)
              go_simp
              refine (dk_flush (d := d) (by have := HCNT.out; omega) HC (by repeat (with_reducible (first | exact At.here | apply At.there)))).mono ?_
              rintro e_ w_ ⟨rfl, Hn_⟩
              rw [HFE.out]
              clear HC
              have HC := Hn_
              clear Hn_
              (try go_simp)
              refine hK.out _ _ ?_
              clear hK K
              (try simp only [List.getElem_toArray, List.getElem_cons_succ, List.getElem_cons_zero, Act.put, List.setIfInBounds_toArray, List.set_cons_zero, List.set_cons_succ])
              (refine wpl_take (v := ?_) (Or.inl ⟨by rfl, ?_⟩) ?_; rotate_left; (focus (intro w_ _; go_simp; try (with_reducible rfl))))
              (try simp only [List.getElem_toArray, List.getElem_cons_succ, List.getElem_cons_zero, Act.put, List.setIfInBounds_toArray, List.set_cons_zero, List.set_cons_succ])
              refine wpList_nil ?_
              (try simp only [Exit.then, Exit.inBlock])
              have hwo := (HOK.out).flush
              have HWO := Aside0.mk hwo
              clear hwo
              (try dsimp only); (repeat (first | (with_reducible refine gate_stop (id := 25) ?_) | go_step)); refine Halted.go ?_
              refine wp_region_lit ?_
              refine wpl_exec (fun K hK => ?_)
              refine st_loadrow HC (by rfl) 32 _ (by rfl) (by rfl) Try.underlying32 rfl (by repeat (with_reducible (first | exact At.here | apply At.there))) (by first | rfl | (simp; done) | kernel_rfl) ?_
              refine hK.out _ _ ?_
              clear hK K
              (try simp only [List.getElem_toArray, List.getElem_cons_succ, List.getElem_cons_zero, Act.put, List.setIfInBounds_toArray, List.set_cons_zero, List.set_cons_succ])
              (refine wpl_take (v := ?_) (Or.inl ⟨by rfl, ?_⟩) ?_; rotate_left; (focus (intro w_ _; go_simp; try (with_reducible rfl))))
              (try simp only [List.getElem_toArray, List.getElem_cons_succ, List.getElem_cons_zero, Act.put, List.setIfInBounds_toArray, List.set_cons_zero, List.set_cons_succ])
              refine wpList_nil ?_
              (try simp only [Exit.then, Exit.inBlock])
              (try dsimp only); (repeat (first | (with_reducible refine gate_loop ?_) | go_step)); refine Halted.go ?_
              go_loopw [88] (fun v88 wr => ∃ (i : Nat) (V2 : Nat → Value), i ≤ 6 ∧ v88 = .int .i64 i ∧ Aside0 (∀ q, i ≤ q → V2 q = V q) ∧ Cx w.heap.size w wr (.blk g10 (.cells #[.int .i64 2, .int .i64 o.f1, .int .u8 o.f2, .slice A3 o.f3.length c3] 36 (0, 0)) :: .blk g7 (.cells (may6 V2) 32 (0, 0)) :: mayP V2 (fun q => if q < i then (x q).drop ((x q).length - 1) else x q) [.own dkR (.pointer (some ⟨b, 0, none⟩)) d.flush])) (fun v88 _ => 6 - (intOf v88).toNat)
              case atStart => exact ⟨0, V, by omega, rfl, ⟨fun _ _ => rfl⟩, Cx.sub (l := .blk g10 (.cells #[.int .i64 2, .int .i64 o.f1, .int .u8 o.f2, .slice A3 o.f3.length c3] 36 (0, 0)) :: .blk g7 (.cells (may6 V) 32 (0, 0)) :: mayP V x [.own dkR (.pointer (some ⟨b, 0, none⟩)) d.flush]) HC (by repeat (with_reducible (first | exact Subl.refl | exact Subl.nil | refine Subl.take (by repeat (with_reducible (first | exact At.here | apply At.there))) ?_ | refine Subl.skip ?_)))⟩
              case round =>
                clear HC
                obtain ⟨i, V2, hi, rfl, HV, HC⟩ := hrel
                by_cases hi6 : i < 6
                · have k0 : (0 : Int) ≤ (i : Int) := by omega
                  have k1 : (i : Int) < 6 := by omega
                  have hmx := fun W => may_index V i hi6 W
                  (try dsimp only); (repeat (first | (with_reducible refine gate_stop (id := 27) ?_) | go_step)); refine Halted.go ?_
                  refine wp_region_lit ?_
                  (refine wpl_take (v := ?_) (Or.inl ⟨by rfl, ?_⟩) ?_; rotate_left; (focus (intro w_ _; go_simp; try (with_reducible rfl))))
                  (try simp only [List.getElem_toArray, List.getElem_cons_succ, List.getElem_cons_zero, Act.put, List.setIfInBounds_toArray, List.set_cons_zero, List.set_cons_succ])
                  (refine wpl_take (Or.inl ⟨by rfl, fun w_ _ => exec_index 32 (.tmp 87) (.tmp 88) rfl (.agg (may6 V)) (.int .i64 (i : Int)) rfl rfl (hmx _)⟩) ?_)
                  (try simp only [List.getElem_toArray, List.getElem_cons_succ, List.getElem_cons_zero, Act.put, List.setIfInBounds_toArray, List.set_cons_zero, List.set_cons_succ])
                  (refine wpl_take (v := ?_) (Or.inl ⟨by rfl, ?_⟩) ?_; rotate_left; (focus (intro w_ _; go_simp; try (with_reducible rfl))))
                  (try simp only [List.getElem_toArray, List.getElem_cons_succ, List.getElem_cons_zero, Act.put, List.setIfInBounds_toArray, List.set_cons_zero, List.set_cons_succ])
                  (refine wpl_take (v := ?_) (Or.inl ⟨by rfl, ?_⟩) ?_; rotate_left; (focus (intro w_ _; go_simp; try (with_reducible rfl))))
                  (try simp only [List.getElem_toArray, List.getElem_cons_succ, List.getElem_cons_zero, Act.put, List.setIfInBounds_toArray, List.set_cons_zero, List.set_cons_succ])
                  refine wpList_nil ?_
                  (try simp only [Exit.then, Exit.inBlock])
                  have hvi := HV.out i (Nat.le_refl i)
                  obtain ⟨rest, H8, hcl⟩ := (Cx.sub (l := mayP V2 (fun q => if q < i then (x q).drop ((x q).length - 1) else x q) [.blk g10 (.cells #[.int .i64 2, .int .i64 o.f1, .int .u8 o.f2, .slice A3 o.f3.length c3] 36 (0, 0)), .blk g7 (.cells (may6 V2) 32 (0, 0)), .own dkR (.pointer (some ⟨b, 0, none⟩)) d.flush]) HC (by repeat (with_reducible (first | exact Subl.refl | exact Subl.nil | refine Subl.take (by repeat (with_reducible (first | exact At.here | apply At.there))) ?_ | refine Subl.skip ?_)))).mayOpen i hi6
                  rw [if_neg (Nat.lt_irrefl i)] at H8
                  have hpos := (HX6.out i hi6).1
                  have hmost := (HX6.out i hi6).2.1
                  obtain ⟨A_, c_, hv, hle, _, hA_⟩ := H8.offLen At.here
                  obtain ⟨gv, ov, rfl, _⟩ := hA_ hpos
                  have hV : V i = .slice (some ⟨gv, ov * 128, none⟩) (x i).length c_ := by rw [← hvi]; exact hv
                  rw [hv] at H8
                  have H9 := hcl (r' := [.blk g10 (.cells #[.int .i64 2, .int .i64 o.f1, .int .u8 o.f2, .slice A3 o.f3.length c3] 36 (0, 0)), .blk g7 (.cells (may6 V2) 32 (0, 0)), .own dkR (.pointer (some ⟨b, 0, none⟩)) d.flush]) (H8.offFrom At.here ((x i).length - 1) (by omega))
                  have hxq : updV (fun q => if q < i then (x q).drop ((x q).length - 1) else x q) i ((x i).drop ((x i).length - 1)) = fun q => if q < i + 1 then (x q).drop ((x q).length - 1) else x q := by
                    funext q
                    simp only [updV]
                    by_cases h1 : q = i
                    · subst h1; simp
                    · by_cases h2 : q < i
                      · simp [h1, h2, show q < i + 1 by omega]
                      · simp [h1, h2, show ¬ q < i + 1 by omega]
                  rw [hxq] at H9
                  clear hxq hcl H8 HC hA_
                  rw [hV]
                  have HC := H9
                  clear H9
                  obtain ⟨L, hL⟩ : ∃ L, L = (x i).length := ⟨_, rfl⟩
                  rw [← hL] at HC hpos hmost hle ⊢
                  have HLL := Aside0.mk hL
                  have HHV := Aside0.mk hV
                  have HVI := Aside0.mk hvi
                  clear hL hv hV hvi
                  have hL1 : (1 : Int) ≤ (L : Int) := by omega
                  have hL2 : (L : Int) ≤ 100 := by omega
                  (try dsimp only); (repeat (first | (with_reducible refine gate_stop (id := 28) ?_) | go_step)); refine Halted.go ?_
                  refine wp_region_lit ?_
                  (refine wpl_take (v := ?_) (Or.inl ⟨by rfl, ?_⟩) ?_; rotate_left; (focus (intro w_ _; go_simp; try (with_reducible rfl))))
                  (try simp only [List.getElem_toArray, List.getElem_cons_succ, List.getElem_cons_zero, Act.put, List.setIfInBounds_toArray, List.set_cons_zero, List.set_cons_succ])
                  (refine wpl_take (v := ?_) (Or.inl ⟨by rfl, ?_⟩) ?_; rotate_left; (focus (intro w_ _; go_simp; try (with_reducible rfl))))
                  (try simp only [List.getElem_toArray, List.getElem_cons_succ, List.getElem_cons_zero, Act.put, List.setIfInBounds_toArray, List.set_cons_zero, List.set_cons_succ])
                  (refine wpl_take (v := ?_) (Or.inl ⟨by rfl, ?_⟩) ?_; rotate_left; (focus (intro w_ _; go_simp; try (with_reducible rfl))))
                  (try simp only [List.getElem_toArray, List.getElem_cons_succ, List.getElem_cons_zero, Act.put, List.setIfInBounds_toArray, List.set_cons_zero, List.set_cons_succ])
                  (refine wpl_take (v := ?_) (Or.inl ⟨by rfl, ?_⟩) ?_; rotate_left; (focus (intro w_ _; go_simp; try (with_reducible rfl))))
                  (try simp only [List.getElem_toArray, List.getElem_cons_succ, List.getElem_cons_zero, Act.put, List.setIfInBounds_toArray, List.set_cons_zero, List.set_cons_succ])
                  (refine wpl_take (v := ?_) (Or.inl ⟨by rfl, ?_⟩) ?_; rotate_left; (focus (intro w_ _; go_simp; (try rw [IntWalk.i64_in _ (by omega)]); try (with_reducible rfl))))
                  (try simp only [List.getElem_toArray, List.getElem_cons_succ, List.getElem_cons_zero, Act.put, List.setIfInBounds_toArray, List.set_cons_zero, List.set_cons_succ])
                  (refine wpl_take (Or.inl ⟨by rfl, fun w_ _ => exec_slice 31 (.tmp 93) (some (.tmp 96)) none none rfl (.slice (some ⟨gv, ov * 128, none⟩) L c_) (some (.int .i64 ((L : Int) - 1))) none none rfl rfl rfl rfl (by rw [show (L : Int) - 1 = ((L - 1 : Nat) : Int) by omega]; exact run_slice_from 31 34 128 Try.underlying31 (by kernel_rfl) gv (ov * 128) L c_ (L - 1) (by omega) hle _)⟩) ?_)
                  (try simp only [List.getElem_toArray, List.getElem_cons_succ, List.getElem_cons_zero, Act.put, List.setIfInBounds_toArray, List.set_cons_zero, List.set_cons_succ])
                  (refine wpl_take (v := ?_) (Or.inl ⟨by rfl, ?_⟩) ?_; rotate_left; (focus (intro w_ _; go_simp; try (with_reducible rfl))))
                  (try simp only [List.getElem_toArray, List.getElem_cons_succ, List.getElem_cons_zero, Act.put, List.setIfInBounds_toArray, List.set_cons_zero, List.set_cons_succ])
                  refine wpl_exec (fun K hK => ?_)
                  refine st_store HC (by rfl) 31 _ _ (by rfl) (by rfl) (by simp only [Act.eval, Array.getD_eq_getD_getElem?, List.getElem?_toArray, List.getElem?_cons_succ, List.getElem?_cons_zero, Option.getD_some] <;> first | done | exact rfl) (by repeat (with_reducible (first | exact At.here | apply At.there))) (by first | decide | (simp; done) | (simp; omega)) (by rfl) (by kernel_rfl) (fun w_ Hn_ => ?_)
                  clear HC
                  have HC := Hn_
                  clear Hn_
                  (try simp only [List.setIfInBounds_toArray, List.set_cons_zero, List.set_cons_succ] at HC)
                  refine hK.out _ _ ?_
                  clear hK K
                  (try simp only [List.getElem_toArray, List.getElem_cons_succ, List.getElem_cons_zero, Act.put, List.setIfInBounds_toArray, List.set_cons_zero, List.set_cons_succ])
                  refine wpList_nil ?_
                  (try simp only [Exit.then, Exit.inBlock])
                  rw [may6_set _ _ i hi6] at HC
                  have HX := Aside0.mk HC
                  clear HC
                  go_wp2
                  exact ⟨⟨i + 1, updV V2 i (.slice (some ⟨gv, ov * 128 + (L - 1) * 128, none⟩) (L - (L - 1)) (c_ - (L - 1))), by omega, by go_num, ⟨fun q hq => (if_neg (by omega : ¬ q = i)).trans (HV.out q (by omega))⟩, Cx.sub HX.out (by repeat (with_reducible (first | exact Subl.refl | exact Subl.nil | refine Subl.take (by repeat (with_reducible (first | exact At.here | apply At.there))) ?_ | refine Subl.skip ?_)))⟩, by simp [intOf]; omega⟩
                · obtain rfl : i = 6 := by omega
                  have HX : Cx w.heap.size w wr (.blk g10 (.cells #[.int .i64 2, .int .i64 o.f1, .int .u8 o.f2, .slice A3 o.f3.length c3] 36 (0, 0)) :: .blk g7 (.cells (may6 V2) 32 (0, 0)) :: mayP V2 (fun q => (x q).drop ((x q).length - 1)) [.own dkR (.pointer (some ⟨b, 0, none⟩)) d.flush]) := HC
                  have HX := Aside0.mk HX
                  clear HC
                  go_wp2
                  exact ⟨⟨j + 1, _, _, _, by omega, by go_num, HWO, HX.out.tail⟩, by simp [intOf]; omega⟩
            · have HX := Aside0.mk HC
              clear HC
              go_wp2
              exact ⟨⟨j + 1, _, _, _, by omega, by go_num, ⟨HOK.out.mono⟩, Cx.sub (HX.out.toS.alloc _).cx (by repeat (with_reducible (first | exact Subl.refl | exact Subl.nil | refine Subl.take (by repeat (with_reducible (first | exact At.here | apply At.there))) ?_ | refine Subl.skip ?_)))⟩, by simp [intOf]; omega⟩
        · obtain rfl : j = l0.length := by omega
          have hok := HOK.out
          have hrow : ∀ W, Cx w.heap.size w W (.blk g7 (.cells (may6 V) 32 (0, 0)) :: mayP V x []) → Kd.C Kd.bool W A9 l1.length l1 := fun W hW => Kd.C_below HR1.out hW.bel
          have hcr : ∀ i, i < 6 → (d.crash l1).sure i ∈ x i ∧ (d.crash l1).read i = ((d.crash l1).sure i, none) := fun i hi => hok.crash l1 i hi
          have HCR := Aside0.mk hcr
          have hcnt : d.cnt + d.waiting.length < 100000 := by have := hok.2.2.2.1; omega
          have HCNT := Aside0.mk hcnt
          have HXL := Aside0.mk hok.2.2.2.2
          clear hok hcr hcnt
          (try dsimp only); (repeat (first | (with_reducible refine gate_stop (id := 31) ?_) | go_step)); refine Halted.go ?_
          have HC2 := Cx.sub (l := .own dkR (.pointer (some ⟨b, 0, none⟩)) d :: .blk g7 (.cells (may6 V) 32 (0, 0)) :: mayP V x []) HC (by repeat (with_reducible (first | exact Subl.refl | exact Subl.nil | refine Subl.take (by repeat (with_reducible (first | exact At.here | apply At.there))) ?_ | refine Subl.skip ?_)))
          clear HC
          have HC := HC2
          clear HC2
          refine wp_region_lit ?_
          (refine wpl_take (v := ?_) (Or.inl ⟨by rfl, ?_⟩) ?_; rotate_left; (focus (intro w_ _; go_simp; try (with_reducible rfl))))
          (try simp only [List.getElem_toArray, List.getElem_cons_succ, List.getElem_cons_zero, Act.put, List.setIfInBounds_toArray, List.set_cons_zero, List.set_cons_succ])
          (refine wpl_take (v := ?_) (Or.inl ⟨by rfl, ?_⟩) ?_; rotate_left; (focus (intro w_ _; go_simp; try (with_reducible rfl))))
          (try simp only [List.getElem_toArray, List.getElem_cons_succ, List.getElem_cons_zero, Act.put, List.setIfInBounds_toArray, List.set_cons_zero, List.set_cons_succ])
          refine wpl_exec (fun K hK => ?_)
          go_simp
          refine (dk_crash (d := d) A9 l1.length c9 l1 HCNT.out HC At.here hrow).mono ?_
          rintro e_ w_ ⟨rfl, Hn_⟩
          clear HC
          have HC := Hn_
          clear Hn_
          (try go_simp)
          refine hK.out _ _ ?_
          clear hK K
          (try simp only [List.getElem_toArray, List.getElem_cons_succ, List.getElem_cons_zero, Act.put, List.setIfInBounds_toArray, List.set_cons_zero, List.set_cons_succ])
          refine wpList_nil ?_
          (try simp only [Exit.then, Exit.inBlock])
          (try dsimp only); (repeat (first | (with_reducible refine gate_stop (id := 32) ?_) | go_step)); refine Halted.go ?_
          refine wp_region_lit ?_
          refine wpl_exec (fun K hK => ?_)
          refine st_loadrow HC (by rfl) 32 _ (by rfl) (by rfl) Try.underlying32 rfl (by repeat (with_reducible (first | exact At.here | apply At.there))) (by first | rfl | (simp; done) | kernel_rfl) ?_
          refine hK.out _ _ ?_
          clear hK K
          (try simp only [List.getElem_toArray, List.getElem_cons_succ, List.getElem_cons_zero, Act.put, List.setIfInBounds_toArray, List.set_cons_zero, List.set_cons_succ])
          (refine wpl_take (v := ?_) (Or.inl ⟨by rfl, ?_⟩) ?_; rotate_left; (focus (intro w_ _; go_simp; try (with_reducible rfl))))
          (try simp only [List.getElem_toArray, List.getElem_cons_succ, List.getElem_cons_zero, Act.put, List.setIfInBounds_toArray, List.set_cons_zero, List.set_cons_succ])
          refine wpList_nil ?_
          (try simp only [Exit.then, Exit.inBlock])
          clear hrow
          obtain ⟨d2, hd2⟩ : ∃ d2, d2 = d.crash l1 := ⟨_, rfl⟩
          rw [← hd2] at HC
          have HCR2 : Aside0 (∀ i, i < 6 → d2.sure i ∈ x i ∧ d2.read i = (d2.sure i, none)) := ⟨by rw [hd2]; exact HCR.out⟩
          have HD2 : Aside0 (d2.gone = false ∧ d2.waiting = []) := ⟨by rw [hd2]; exact ⟨rfl, rfl⟩⟩
          clear hd2 HCR
          (try dsimp only); (repeat (first | (with_reducible refine gate_loop ?_) | go_step)); refine Halted.go ?_
          go_loopw [105] (fun v105 wr => ∃ i : Nat, i ≤ 6 ∧ v105 = .int .i64 i ∧ Cx w.heap.size w wr (.own dkR (.pointer (some ⟨b, 0, none⟩)) d2 :: .blk g7 (.cells (may6 V) 32 (0, 0)) :: mayP V x [])) (fun v105 _ => 6 - (intOf v105).toNat)
          case atStart => exact ⟨0, by omega, rfl, HC⟩
          case round =>
            clear HC
            obtain ⟨i, hi, rfl, HC⟩ := hrel
            by_cases hi6 : i < 6
            · have k0 : (0 : Int) ≤ (i : Int) := by omega
              have k1 : (i : Int) < 6 := by omega
              have hmx := fun W => may_index V i hi6 W
              obtain ⟨rest, H8, hcl⟩ := (Cx.sub (l := mayP V x [.own dkR (.pointer (some ⟨b, 0, none⟩)) d2, .blk g7 (.cells (may6 V) 32 (0, 0))]) HC (by repeat (with_reducible (first | exact Subl.refl | exact Subl.nil | refine Subl.take (by repeat (with_reducible (first | exact At.here | apply At.there))) ?_ | refine Subl.skip ?_)))).mayOpen i hi6
              obtain ⟨A_, c_, hv, hle, _, hA_⟩ := H8.offLen At.here
              obtain ⟨gv, ov, rfl, _⟩ := hA_ (HXL.out i hi6).1
              have HHV := Aside0.mk hv
              clear H8 hcl hA_ hv rest
              (try dsimp only); (repeat (first | (with_reducible refine gate_stop (id := 34) ?_) | go_step)); refine Halted.go ?_
              refine wp_region_lit ?_
              (refine wpl_take (v := ?_) (Or.inl ⟨by rfl, ?_⟩) ?_; rotate_left; (focus (intro w_ _; go_simp; try (with_reducible rfl))))
              (try simp only [List.getElem_toArray, List.getElem_cons_succ, List.getElem_cons_zero, Act.put, List.setIfInBounds_toArray, List.set_cons_zero, List.set_cons_succ])
              (refine wpl_take (Or.inl ⟨by rfl, fun w_ _ => exec_index 32 (.tmp 104) (.tmp 105) rfl (.agg (may6 V)) (.int .i64 (i : Int)) rfl rfl (hmx _)⟩) ?_)
              (try simp only [List.getElem_toArray, List.getElem_cons_succ, List.getElem_cons_zero, Act.put, List.setIfInBounds_toArray, List.set_cons_zero, List.set_cons_succ])
              (refine wpl_take (v := ?_) (Or.inl ⟨by rfl, ?_⟩) ?_; rotate_left; (focus (intro w_ _; go_simp; try (with_reducible rfl))))
              (try simp only [List.getElem_toArray, List.getElem_cons_succ, List.getElem_cons_zero, Act.put, List.setIfInBounds_toArray, List.set_cons_zero, List.set_cons_succ])
              (refine wpl_take (v := ?_) (Or.inl ⟨by rfl, ?_⟩) ?_; rotate_left; (focus (intro w_ _; go_simp; try (with_reducible rfl))))
              (try simp only [List.getElem_toArray, List.getElem_cons_succ, List.getElem_cons_zero, Act.put, List.setIfInBounds_toArray, List.set_cons_zero, List.set_cons_succ])
              refine wpList_nil ?_
              (try simp only [Exit.then, Exit.inBlock])
              rw [HHV.out]
              clear hmx
              (try dsimp only); (repeat (first | (with_reducible refine gate_stop (id := 35) ?_) | go_step)); refine Halted.go ?_
              have hrd := HCR2.out i hi6
              have HRD := Aside0.mk hrd
              clear hrd
              have hsl := Dk.sure_len HC (d := d2) (by repeat (with_reducible (first | exact At.here | apply At.there)))
              have HSL := Aside0.mk hsl
              clear hsl
              refine wp_region_lit ?_
              (refine wpl_take (v := ?_) (Or.inl ⟨by rfl, ?_⟩) ?_; rotate_left; (focus (intro w_ _; go_simp; try (with_reducible rfl))))
              (try simp only [List.getElem_toArray, List.getElem_cons_succ, List.getElem_cons_zero, Act.put, List.setIfInBounds_toArray, List.set_cons_zero, List.set_cons_succ])
              (refine wpl_take (v := ?_) (Or.inl ⟨by rfl, ?_⟩) ?_; rotate_left; (focus (intro w_ _; go_simp; try (with_reducible rfl))))
              (try simp only [List.getElem_toArray, List.getElem_cons_succ, List.getElem_cons_zero, Act.put, List.setIfInBounds_toArray, List.set_cons_zero, List.set_cons_succ])
              refine wpl_exec (fun K hK => ?_)
              go_simp
              refine (dk_read (d := d2) (i : Int) (by simp [Lit.wf, IntKind.min, IntKind.max, IntKind.signed, IntKind.bits]; omega) HC (by repeat (with_reducible (first | exact At.here | apply At.there))) (by rw [HD2.out.2]; decide)).mono ?_
              rintro e_ w_ ⟨rfl, Hn_⟩
              rw [HRD.out.2, errW_none]
              clear HC
              have HC := Hn_
              clear Hn_
              (try go_simp)
              refine hK.out _ _ ?_
              clear hK K
              (try simp only [List.getElem_toArray, List.getElem_cons_succ, List.getElem_cons_zero, Act.put, List.setIfInBounds_toArray, List.set_cons_zero, List.set_cons_succ])
              (refine wpl_take (v := ?_) (Or.inl ⟨by rfl, ?_⟩) ?_; rotate_left; (focus (intro w_ _; go_simp; try (with_reducible rfl))))
              (try simp only [List.getElem_toArray, List.getElem_cons_succ, List.getElem_cons_zero, Act.put, List.setIfInBounds_toArray, List.set_cons_zero, List.set_cons_succ])
              (refine wpl_take (v := ?_) (Or.inl ⟨by rfl, ?_⟩) ?_; rotate_left; (focus (intro w_ _; go_simp; try (with_reducible rfl))))
              (try simp only [List.getElem_toArray, List.getElem_cons_succ, List.getElem_cons_zero, Act.put, List.setIfInBounds_toArray, List.set_cons_zero, List.set_cons_succ])
              (refine wpl_take (v := ?_) (Or.inl ⟨by rfl, ?_⟩) ?_; rotate_left; (focus (intro w_ _; go_simp; try (with_reducible rfl))))
              (try simp only [List.getElem_toArray, List.getElem_cons_succ, List.getElem_cons_zero, Act.put, List.setIfInBounds_toArray, List.set_cons_zero, List.set_cons_succ])
              refine wpl_exec (fun K hK => ?_)
              refine st_alloc (z := .agg (u8A sz0)) HC (by rfl) 34 (by rfl) (by kernel_rfl) (fun g15 w_ Hn_ => ?_)
              clear HC
              have HC := Hn_
              clear Hn_
              (try simp only [Value.cells] at HC)
              refine hK.out _ _ ?_
              clear hK K
              (try simp only [List.getElem_toArray, List.getElem_cons_succ, List.getElem_cons_zero, Act.put, List.setIfInBounds_toArray, List.set_cons_zero, List.set_cons_succ])
              refine wpl_exec (fun K hK => ?_)
              refine st_storerow HC (by rfl) 34 _ _ (by rfl) (by rfl) (by simp only [Act.eval, Array.getD_eq_getD_getElem?, List.getElem?_toArray, List.getElem?_cons_succ, List.getElem?_cons_zero, Option.getD_some] <;> first | done | exact rfl) (by repeat (with_reducible (first | exact At.here | apply At.there))) (by rw [u8A_size, u8A_size, sz0_len, HSL.out]) (dk_isz (HSL.out _)) (u8A_one _) (fun w_ Hn_ => ?_)
              clear HC
              have HC := Hn_
              clear Hn_
              (try simp only [List.setIfInBounds_toArray, List.set_cons_zero, List.set_cons_succ] at HC)
              refine hK.out _ _ ?_
              clear hK K
              (try simp only [List.getElem_toArray, List.getElem_cons_succ, List.getElem_cons_zero, Act.put, List.setIfInBounds_toArray, List.set_cons_zero, List.set_cons_succ])
              (refine wpl_take (v := ?_) (Or.inl ⟨by rfl, ?_⟩) ?_; rotate_left; (focus (intro w_ _; go_simp; try (with_reducible rfl))))
              (try simp only [List.getElem_toArray, List.getElem_cons_succ, List.getElem_cons_zero, Act.put, List.setIfInBounds_toArray, List.set_cons_zero, List.set_cons_succ])
              refine wpList_nil ?_
              (try simp only [Exit.then, Exit.inBlock])
              have hxi := (HXL.out i hi6).2.1
              have hxi2 : (x i).length < 1000 := by omega
              have hix : (x i).length < 1000 ∧ d2.sure (i : Int) ∈ x i := ⟨hxi2, HRD.out.1⟩
              have HIX := Aside0.mk hix
              clear hxi hxi2 hix
              have hx6 : ∀ (q : Nat) (s : List Int), (x i)[q]? = some s → s.length = 128 := fun q s hs => by
                obtain ⟨rest, H8, hcl⟩ := (Cx.sub (l := mayP V x []) HC (by repeat (with_reducible (first | exact Subl.refl | exact Subl.nil | refine Subl.take (by repeat (with_reducible (first | exact At.here | apply At.there))) ?_ | refine Subl.skip ?_)))).mayOpen i hi6
                obtain ⟨A_, c_, hv, hle, hall, hA_⟩ := H8.offLen At.here
                simpa using hall s (List.mem_of_getElem? hs)
              have HX6 := Aside0.mk hx6
              have hra : ∀ (W : World), Cx w.heap.size w W (mayP V x []) → ∀ (q : Nat) (s : List Int), (x i)[q]? = some s → W.rangeAt gv (ov * 128 + q * 128) (secE s) := fun W hW q s hs => by
                obtain ⟨rest, H8, hcl⟩ := hW.mayOpen i hi6
                obtain ⟨A_, c_, hv, hle, hall, hA_⟩ := H8.offLen At.here
                obtain ⟨g2, o2, hg2, hr2⟩ := hA_ (by have := (List.getElem?_eq_some_iff.1 hs).1; omega)
                rw [HHV.out] at hv
                injection hv with hv1 _ _
                subst hv1
                injection hg2 with hg2
                injection hg2 with e1 e2 _
                rw [e1, e2]
                exact hr2 q s hs
              have HRA := Aside0.mk hra
              clear hx6 hra
              (try dsimp only); (repeat (first | (with_reducible refine gate_loop ?_) | go_step)); refine Halted.go ?_
              go_loopw [117, 17] (fun v117 v17 wr => ∃ q : Nat, q ≤ (x i).length ∧ v117 = .int .i64 q ∧ v17 = .bool (decide (d2.sure (i : Int) ∈ (x i).take q)) ∧ Cx w.heap.size w wr (.blk g15 (.cells (u8A (d2.sure (i : Int))) 34 (0, 0)) :: .own dkR (.pointer (some ⟨b, 0, none⟩)) d2 :: .blk g7 (.cells (may6 V) 32 (0, 0)) :: mayP V x [])) (fun v117 _ _ => (x i).length - (intOf v117).toNat)
              case atStart => exact ⟨0, by omega, rfl, by simp, HC⟩
              case round =>
                clear HC
                obtain ⟨q, hq, rfl, rfl, HC⟩ := hrel
                by_cases hql : q < (x i).length
                · have q0 : (0 : Int) ≤ (q : Int) := by omega
                  have q1 : (q : Int) < ((x i).length : Int) := by omega
                  have q2 : (q : Int) ≤ 1000 := by have := HIX.out.1; omega
                  obtain ⟨s, hs⟩ : ∃ s, (x i)[q]? = some s := ⟨_, List.getElem?_eq_getElem hql⟩
                  have hsl2 := HX6.out q s hs
                  have HS := Aside0.mk hs
                  have HSL2 := Aside0.mk hsl2
                  clear hs hsl2
                  (try dsimp only); (repeat (first | (with_reducible refine gate_stop (id := 39) ?_) | go_step)); refine Halted.go ?_
                  refine wp_region_lit ?_
                  (refine wpl_take (v := ?_) (Or.inl ⟨by rfl, ?_⟩) ?_; rotate_left; (focus (intro w_ _; go_simp; try (with_reducible rfl))))
                  (try simp only [List.getElem_toArray, List.getElem_cons_succ, List.getElem_cons_zero, Act.put, List.setIfInBounds_toArray, List.set_cons_zero, List.set_cons_succ])
                  refine wpl_exec (fun K hK => ?_)
                  refine st_loadmid (by rfl) 34 _ (by rfl) (by rfl) Try.underlying34 rfl (HRA.out _ ((HC).sub (by repeat (with_reducible (first | exact Subl.refl | exact Subl.nil | refine Subl.take (by repeat (with_reducible (first | exact At.here | apply At.there))) ?_ | refine Subl.skip ?_)))) q s HS.out) (by rw [List.length_map, HSL2.out]; exact dk_info) ?_
                  refine hK.out _ _ ?_
                  clear hK K
                  (try simp only [List.getElem_toArray, List.getElem_cons_succ, List.getElem_cons_zero, Act.put, List.setIfInBounds_toArray, List.set_cons_zero, List.set_cons_succ])
                  refine wpl_exec (fun K hK => ?_)
                  refine st_alloc (z := .agg (u8A sz0)) HC (by rfl) 34 (by rfl) (by kernel_rfl) (fun g19 w_ Hn_ => ?_)
                  clear HC
                  have HC := Hn_
                  clear Hn_
                  (try simp only [Value.cells] at HC)
                  refine hK.out _ _ ?_
                  clear hK K
                  (try simp only [List.getElem_toArray, List.getElem_cons_succ, List.getElem_cons_zero, Act.put, List.setIfInBounds_toArray, List.set_cons_zero, List.set_cons_succ])
                  refine wpl_exec (fun K hK => ?_)
                  refine st_storerow HC (by rfl) 34 _ _ (by rfl) (by rfl) (by simp only [Act.eval, Array.getD_eq_getD_getElem?, List.getElem?_toArray, List.getElem?_cons_succ, List.getElem?_cons_zero, Option.getD_some] <;> first | done | exact rfl) (by repeat (with_reducible (first | exact At.here | apply At.there))) (by rw [u8A_size, sz0_len]; exact ((u8A_size s).trans HSL2.out).symm) (dk_isz HSL2.out) (u8A_one _) (fun w_ Hn_ => ?_)
                  clear HC
                  have HC := Hn_
                  clear Hn_
                  (try simp only [List.setIfInBounds_toArray, List.set_cons_zero, List.set_cons_succ] at HC)
                  refine hK.out _ _ ?_
                  clear hK K
                  (try simp only [List.getElem_toArray, List.getElem_cons_succ, List.getElem_cons_zero, Act.put, List.setIfInBounds_toArray, List.set_cons_zero, List.set_cons_succ])
                  refine wpList_nil ?_
                  (try simp only [Exit.then, Exit.inBlock])
                  have htk : decide (d2.sure (i : Int) ∈ (x i).take (q + 1)) = (decide (d2.sure (i : Int) ∈ (x i).take q) || decide (s = d2.sure (i : Int))) := by
                    rw [List.take_add_one, HS.out]
                    simp [List.mem_append, eq_comm]
                  have HTK := Aside0.mk htk
                  clear htk
                  have heq : ∀ W, (Op.equalIn 10000 34 (.agg (u8A s)) (.agg (u8A (d2.sure (i : Int))))).run Try.prog W = .ok (decide (s = d2.sure (i : Int))) W := fun W => dk_eql _ _ HSL2.out (HSL.out _) W
                  cases hm : decide (d2.sure (i : Int) ∈ (x i).take q)
                  all_goals
                    rw [hm] at HTK
                    (try dsimp only); (repeat (first | (with_reducible refine gate_stop (id := 40) ?_) | go_step)); refine Halted.go ?_
                    refine wp_region_lit ?_
                    (refine wpl_take (v := ?_) (Or.inl ⟨by rfl, ?_⟩) ?_; rotate_left; (focus (intro w_ _; go_simp; try (with_reducible rfl))))
                    (try simp only [List.getElem_toArray, List.getElem_cons_succ, List.getElem_cons_zero, Act.put, List.setIfInBounds_toArray, List.set_cons_zero, List.set_cons_succ])
                    (refine wpl_take (v := ?_) (Or.inl ⟨by rfl, ?_⟩) ?_; rotate_left; (focus (intro w_ _; go_simp; try (with_reducible rfl))))
                    (try simp only [List.getElem_toArray, List.getElem_cons_succ, List.getElem_cons_zero, Act.put, List.setIfInBounds_toArray, List.set_cons_zero, List.set_cons_succ])
                    first | (refine wpl_exec (fun K hK => ?_); refine st_loadrow HC (by rfl) 34 _ (by rfl) (by rfl) Try.underlying34 rfl (by repeat (with_reducible (first | exact At.here | apply At.there))) (dk_isz HSL2.out) ?_; refine hK.out _ _ ?_; clear hK K) | (refine wpl_take (v := undef) (Or.inr ⟨by rfl, rfl⟩) ?_)
                    (try simp only [List.getElem_toArray, List.getElem_cons_succ, List.getElem_cons_zero, Act.put, List.setIfInBounds_toArray, List.set_cons_zero, List.set_cons_succ])
                    first | (refine wpl_exec (fun K hK => ?_); refine st_loadrow HC (by rfl) 34 _ (by rfl) (by rfl) Try.underlying34 rfl (by repeat (with_reducible (first | exact At.here | apply At.there))) (dk_isz (HSL.out _)) ?_; refine hK.out _ _ ?_; clear hK K) | (refine wpl_take (v := undef) (Or.inr ⟨by rfl, rfl⟩) ?_)
                    (try simp only [List.getElem_toArray, List.getElem_cons_succ, List.getElem_cons_zero, Act.put, List.setIfInBounds_toArray, List.set_cons_zero, List.set_cons_succ])
                    first | (refine wpl_take (v := ?_) (Or.inl ⟨by rfl, ?_⟩) ?_; rotate_left; (focus (intro w_ _; go_simp; try (with_reducible rfl)))) | (refine wpl_take (v := undef) (Or.inr ⟨by rfl, rfl⟩) ?_)
                    (try simp only [List.getElem_toArray, List.getElem_cons_succ, List.getElem_cons_zero, Act.put, List.setIfInBounds_toArray, List.set_cons_zero, List.set_cons_succ])
                    (refine wpl_take (v := ?_) (Or.inl ⟨by rfl, ?_⟩) ?_; rotate_left; (focus (intro w_ _; go_simp; try (with_reducible rfl))))
                    (try simp only [List.getElem_toArray, List.getElem_cons_succ, List.getElem_cons_zero, Act.put, List.setIfInBounds_toArray, List.set_cons_zero, List.set_cons_succ])
                    (refine wpl_take (v := ?_) (Or.inl ⟨by rfl, ?_⟩) ?_; rotate_left; (focus (intro w_ _; go_simp; try (with_reducible rfl))))
                    (try simp only [List.getElem_toArray, List.getElem_cons_succ, List.getElem_cons_zero, Act.put, List.setIfInBounds_toArray, List.set_cons_zero, List.set_cons_succ])
                    refine wpList_nil ?_
                    (try simp only [Exit.then, Exit.inBlock])
                    have HX := Aside0.mk HC
                    clear HC heq
                    go_wp2
                    exact ⟨⟨q + 1, by omega, by go_num, by rw [HTK.out]; rfl, HX.out.tail⟩, by simp [intOf]; omega⟩
                · obtain rfl : q = (x i).length := by omega
                  rw [List.take_length, decide_eq_true HIX.out.2]
                  have heq : ∀ W, (Op.equalIn 10000 34 (.agg (u8A (d2.sure (i : Int)))) (.agg (u8A (d2.sure (i : Int))))).run Try.prog W = .ok true W := fun W => by have := dk_eql _ _ (HSL.out (i : Int)) (HSL.out (i : Int)) W; rwa [decide_eq_true rfl] at this
                  (try dsimp only); (repeat (first | (with_reducible refine gate_stop (id := 42) ?_) | go_step)); refine Halted.go ?_
                  refine wp_region_Dx HC (by kernel_rfl) [.blk g15 (.cells (u8A (d2.sure (i : Int))) 34 (0, 0))] [7] (by repeat (with_reducible (first | exact Subl.refl | exact Subl.nil | refine Subl.take (by repeat (with_reducible (first | exact At.here | apply At.there))) ?_ | refine Subl.skip ?_))) (fun w_ Hn_ hS_ => ?_)
                  clear HC
                  have HC := Hn_
                  clear Hn_
                  (refine wpAnyD_take (i := 0) (v := ?_) rfl (by kernel_rfl) (fun _ _ _ h => h) (Or.inl ⟨by rfl, ?_⟩) (.inl hS_) ?_; rotate_left; (focus (intro w_ _; go_simp; try (with_reducible rfl))))
                  (try simp only [List.getElem_toArray, List.getElem_cons_succ, List.getElem_cons_zero, Act.put, List.setIfInBounds_toArray, List.set_cons_zero, List.set_cons_succ])
                  (refine wpAnyD_take (i := 1) (v := ?_) rfl (by kernel_rfl) (fun _ _ _ h => h) (Or.inl ⟨by rfl, ?_⟩) (.inl hS_) ?_; rotate_left; (focus (intro w_ _; go_simp; try (with_reducible rfl))))
                  (try simp only [List.getElem_toArray, List.getElem_cons_succ, List.getElem_cons_zero, Act.put, List.setIfInBounds_toArray, List.set_cons_zero, List.set_cons_succ])
                  (refine wpAnyD_take (i := 2) (v := ?_) rfl (by kernel_rfl) (fun _ _ _ h => h) (Or.inl ⟨by rfl, ?_⟩) (.inl hS_) ?_; rotate_left; (focus (intro w_ _; go_simp; try (with_reducible rfl))))
                  (try simp only [List.getElem_toArray, List.getElem_cons_succ, List.getElem_cons_zero, Act.put, List.setIfInBounds_toArray, List.set_cons_zero, List.set_cons_succ])
                  first | (refine wpAnyD_take (i := 3) (v := ?_) rfl (by kernel_rfl) (fun _ _ _ h => h) (Or.inl ⟨by rfl, ?_⟩) (.inl hS_) ?_; rotate_left; (focus (intro w_ _; go_simp; try (with_reducible rfl)))) | (refine wpAnyD_take (i := 3) (v := undef) rfl (by kernel_rfl) (fun _ _ _ h => h) (Or.inr ⟨by rfl, rfl⟩) (.inl hS_) ?_)
                  (try simp only [List.getElem_toArray, List.getElem_cons_succ, List.getElem_cons_zero, Act.put, List.setIfInBounds_toArray, List.set_cons_zero, List.set_cons_succ])
                  first | (refine wpAnyD_take (i := 4) (v := ?_) rfl (by kernel_rfl) (fun _ _ _ h => h) (Or.inl ⟨by rfl, ?_⟩) (.inl hS_) ?_; rotate_left; (focus (intro w_ _; go_simp; try (with_reducible rfl)))) | (refine wpAnyD_take (i := 4) (v := undef) rfl (by kernel_rfl) (fun _ _ _ h => h) (Or.inr ⟨by rfl, rfl⟩) (.inl hS_) ?_)
                  (try simp only [List.getElem_toArray, List.getElem_cons_succ, List.getElem_cons_zero, Act.put, List.setIfInBounds_toArray, List.set_cons_zero, List.set_cons_succ])
                  (refine wpAnyD_take (i := 5) (v := ?_) rfl (by kernel_rfl) (fun _ _ _ h => h) (Or.inl ⟨by rfl, ?_⟩) (.inl hS_) ?_; rotate_left; (focus (intro w_ _; go_simp; try (with_reducible rfl))))
                  (try simp only [List.getElem_toArray, List.getElem_cons_succ, List.getElem_cons_zero, Act.put, List.setIfInBounds_toArray, List.set_cons_zero, List.set_cons_succ])
                  (refine wpAnyD_take (i := 6) (v := ?_) rfl (by kernel_rfl) (fun _ _ _ h => h) (Or.inl ⟨by rfl, ?_⟩) (.inl hS_) ?_; rotate_left; (focus (intro w_ _; go_simp; try (with_reducible rfl))))
                  (try simp only [List.getElem_toArray, List.getElem_cons_succ, List.getElem_cons_zero, Act.put, List.setIfInBounds_toArray, List.set_cons_zero, List.set_cons_succ])
                  first | (refine wpAnyD_load (i := 7) rfl (by kernel_rfl) (fun _ _ _ h => h) (yields_row (by rfl) 34 _ (by rfl) (by rfl) Try.underlying34 rfl (dk_isz (HSL.out _)) (fun _ h => h) (by repeat (with_reducible (first | exact At.here | apply At.there)))) hS_ ?_) | (refine wpAnyD_take (i := 7) (v := undef) rfl (by kernel_rfl) (fun _ _ _ h => h) (Or.inr ⟨by rfl, rfl⟩) (.inl hS_) ?_)
                  (try simp only [List.getElem_toArray, List.getElem_cons_succ, List.getElem_cons_zero, Act.put, List.setIfInBounds_toArray, List.set_cons_zero, List.set_cons_succ])
                  first | (refine wpAnyD_take (i := 8) (v := ?_) rfl (by kernel_rfl) (fun _ _ _ h => h) (Or.inl ⟨by rfl, ?_⟩) (.inl hS_) ?_; rotate_left; (focus (intro w_ _; go_simp; try (with_reducible rfl)))) | (refine wpAnyD_take (i := 8) (v := undef) rfl (by kernel_rfl) (fun _ _ _ h => h) (Or.inr ⟨by rfl, rfl⟩) (.inl hS_) ?_)
                  (try simp only [List.getElem_toArray, List.getElem_cons_succ, List.getElem_cons_zero, Act.put, List.setIfInBounds_toArray, List.set_cons_zero, List.set_cons_succ])
                  first | (refine wpAnyD_take (i := 9) (v := ?_) rfl (by kernel_rfl) (fun _ _ _ h => h) (Or.inl ⟨by rfl, ?_⟩) (.inl hS_) ?_; rotate_left; (focus (intro w_ _; go_simp; try (with_reducible rfl)))) | (refine wpAnyD_take (i := 9) (v := undef) rfl (by kernel_rfl) (fun _ _ _ h => h) (Or.inr ⟨by rfl, rfl⟩) (.inl hS_) ?_)
                  (try simp only [List.getElem_toArray, List.getElem_cons_succ, List.getElem_cons_zero, Act.put, List.setIfInBounds_toArray, List.set_cons_zero, List.set_cons_succ])
                  refine wpAnyD_exec (i := 10) (by kernel_rfl) rfl (fun K hK => ?_)
                  go_simp
                  refine (dk_sure (d := d2) (i : Int) (by simp [Lit.wf, IntKind.min, IntKind.max, IntKind.signed, IntKind.bits]; omega) HC (by repeat (with_reducible (first | exact At.here | apply At.there)))).mono ?_
                  rintro e_ w_ ⟨rfl, Hn_⟩
                  clear HC
                  have HC := Hn_
                  clear Hn_
                  (try go_simp)
                  refine hK.out _ _ (Or.inl (HC.sub (by repeat (with_reducible (first | exact Subl.refl | exact Subl.nil | refine Subl.take (by repeat (with_reducible (first | exact At.here | apply At.there))) ?_ | refine Subl.skip ?_))))) ?_
                  clear hK K
                  (try simp only [List.getElem_toArray, List.getElem_cons_succ, List.getElem_cons_zero, Act.put, List.setIfInBounds_toArray, List.set_cons_zero, List.set_cons_succ])
                  clear hS_
                  have hS_ := HC.sub (l := [.blk g15 (.cells (u8A (d2.sure (i : Int))) 34 (0, 0))]) (by repeat (with_reducible (first | exact Subl.refl | exact Subl.nil | refine Subl.take (by repeat (with_reducible (first | exact At.here | apply At.there))) ?_ | refine Subl.skip ?_)))
                  refine wpAnyD_exec (i := 11) (by kernel_rfl) rfl (fun K hK => ?_)
                  refine st_pure (v := ?_) (by rfl) ?_ ?_
                  rotate_left
                  focus (go_simp; try (with_reducible rfl))
                  refine hK.out _ _ (Or.inr (by kernel_rfl)) ?_
                  clear hK K
                  (try simp only [List.getElem_toArray, List.getElem_cons_succ, List.getElem_cons_zero, Act.put, List.setIfInBounds_toArray, List.set_cons_zero, List.set_cons_succ])
                  clear hS_
                  refine wpAnyD_turn (S2 := fun _ => True) (I2 := [13]) _ _ _ _ (Or.inl (by kernel_rfl)) ?_
                  have hS_ : True := trivial
                  (refine wpAnyD_take (i := 12) (v := ?_) rfl (by kernel_rfl) (fun _ _ _ h => h) (Or.inl ⟨by rfl, ?_⟩) (.inl trivial) ?_; rotate_left; (focus (intro w_ _; go_simp; try (with_reducible rfl))))
                  (try simp only [List.getElem_toArray, List.getElem_cons_succ, List.getElem_cons_zero, Act.put, List.setIfInBounds_toArray, List.set_cons_zero, List.set_cons_succ])
                  refine wpAnyD_done (by kernel_rfl) ?_ _
                  clear hS_
                  (try simp only [Exit.then, Exit.inBlock])
                  have HX := Aside0.mk HC
                  clear HC heq
                  go_wp2
                  exact ⟨⟨i + 1, by omega, by go_num, Cx.sub HX.out (by repeat (with_reducible (first | exact Subl.refl | exact Subl.nil | refine Subl.take (by repeat (with_reducible (first | exact At.here | apply At.there))) ?_ | refine Subl.skip ?_)))⟩, by simp [intOf]; omega⟩
            · obtain rfl : i = 6 := by omega
              (try dsimp only); (repeat (first | (with_reducible refine gate_stop (id := 45) ?_) | go_step)); refine Halted.go ?_
              refine wp_region_lit ?_
              (refine wpl_take (v := ?_) (Or.inl ⟨by rfl, ?_⟩) ?_; rotate_left; (focus (intro w_ _; go_simp; try (with_reducible rfl))))
              (try simp only [List.getElem_toArray, List.getElem_cons_succ, List.getElem_cons_zero, Act.put, List.setIfInBounds_toArray, List.set_cons_zero, List.set_cons_succ])
              refine wpl_exec (fun K hK => ?_)
              go_simp
              refine (dk_waiting (d := d2) HC (by repeat (with_reducible (first | exact At.here | apply At.there)))).mono ?_
              rintro e_ w_ ⟨rfl, rfl⟩
              rw [HD2.out.2]
              (try go_simp)
              refine hK.out _ _ ?_
              clear hK K
              (try simp only [List.getElem_toArray, List.getElem_cons_succ, List.getElem_cons_zero, Act.put, List.setIfInBounds_toArray, List.set_cons_zero, List.set_cons_succ])
              (refine wpl_take (v := ?_) (Or.inl ⟨by rfl, ?_⟩) ?_; rotate_left; (focus (intro w_ _; go_simp; try (with_reducible rfl))))
              (try simp only [List.getElem_toArray, List.getElem_cons_succ, List.getElem_cons_zero, Act.put, List.setIfInBounds_toArray, List.set_cons_zero, List.set_cons_succ])
              (refine wpl_take (v := ?_) (Or.inl ⟨by rfl, ?_⟩) ?_; rotate_left; (focus (intro w_ _; go_simp; try (with_reducible rfl))))
              (try simp only [List.getElem_toArray, List.getElem_cons_succ, List.getElem_cons_zero, Act.put, List.setIfInBounds_toArray, List.set_cons_zero, List.set_cons_succ])
              first | (refine wpl_take (v := ?_) (Or.inl ⟨by rfl, ?_⟩) ?_; rotate_left; (focus (intro w_ _; go_simp; try (with_reducible rfl)))) | (refine wpl_take (v := undef) (Or.inr ⟨by rfl, rfl⟩) ?_)
              (try simp only [List.getElem_toArray, List.getElem_cons_succ, List.getElem_cons_zero, Act.put, List.setIfInBounds_toArray, List.set_cons_zero, List.set_cons_succ])
              refine wpl_exec (fun K hK => ?_)
              go_simp
              refine (dk_down (d := d2) HC (by repeat (with_reducible (first | exact At.here | apply At.there)))).mono ?_
              rintro e_ w_ ⟨rfl, rfl⟩
              rw [HD2.out.1]
              (try go_simp)
              refine hK.out _ _ ?_
              clear hK K
              (try simp only [List.getElem_toArray, List.getElem_cons_succ, List.getElem_cons_zero, Act.put, List.setIfInBounds_toArray, List.set_cons_zero, List.set_cons_succ])
              first | (refine wpl_take (v := ?_) (Or.inl ⟨by rfl, ?_⟩) ?_; rotate_left; (focus (intro w_ _; go_simp; try (with_reducible rfl)))) | (refine wpl_take (v := undef) (Or.inr ⟨by rfl, rfl⟩) ?_)
              (try simp only [List.getElem_toArray, List.getElem_cons_succ, List.getElem_cons_zero, Act.put, List.setIfInBounds_toArray, List.set_cons_zero, List.set_cons_succ])
              (refine wpl_take (v := ?_) (Or.inl ⟨by rfl, ?_⟩) ?_; rotate_left; (focus (intro w_ _; go_simp; try (with_reducible rfl))))
              (try simp only [List.getElem_toArray, List.getElem_cons_succ, List.getElem_cons_zero, Act.put, List.setIfInBounds_toArray, List.set_cons_zero, List.set_cons_succ])
              (refine wpl_take (v := ?_) (Or.inl ⟨by rfl, ?_⟩) ?_; rotate_left; (focus (intro w_ _; go_simp; try (with_reducible rfl))))
              (try simp only [List.getElem_toArray, List.getElem_cons_succ, List.getElem_cons_zero, Act.put, List.setIfInBounds_toArray, List.set_cons_zero, List.set_cons_succ])
              refine wpList_nil ?_
              (try simp only [Exit.then, Exit.inBlock])
              go_wp2
              go_ret
              exact ⟨by first | rfl | trivial, HC.bel⟩

end Go.Proofs.Ytjoledofiindcaa.Hp
