/- Contracts of functions of the given program, and what they lean on: written by this session's own program, out of hand texts laid into the kit's printer. -/
import Derived.Test.YtjoledofiindcaaHp0
import Derived.Test.YtjoledofiindcaaHg1
import Derived.Test.YtjoledofiindcaaHg2
import Derived.Test.YtjoledofiindcaaHg3
import Derived.Test.YtjoledofiindcaaHg4
namespace Go.Proofs.Ytjoledofiindcaa.Hp
open Go.RowKit Go.Proofs.YtjoledofiindcaaW.PrintWords Go.Proofs.YtjoledofiindcaaW.PrintLast Go.Proofs.YtjoledofiindcaaW.PrintMore
attribute [local go_sem] max2_int min2_int max_two min_two max_three min_three max_four min_four   -- for this text's walks alone
set_option linter.unusedVariables false
set_option linter.unusedSimpArgs false

/-! ### disk_Disk_Copy: function 27 -/
-- needs: do_calls Rel.put Rel.flush RfAt dk_sure dk_read dk_len dk_waiting dk_steps dk_down dk_zerob numI actD
theorem numI_out {e : Option Int} (h : e = none ∨ e = some 1 ∨ e = some 3) : numI e = outN e := by
  rcases h with rfl | rfl | rfl <;> rfl
theorem act_rel {d : Dk} {x : Rf} (h : Rel d x) (hg : x.Good) (o : S36) : Rel (actD d o) (actX x o) ∧ actB d x o = true := by
  unfold actD actX actB
  by_cases h1 : o.f0 = 1
  · rw [if_pos h1, if_pos h1, if_pos h1]
    obtain ⟨r, e⟩ := h.put o.f1 (fullS o.f2)
    have hn : d.writeE o.f1 = none ∨ d.writeE o.f1 = some 1 ∨ d.writeE o.f1 = some 3 := by unfold Dk.writeE; (repeat' split) <;> simp
    exact ⟨r, by rw [numI_out hn, e]; exact beq_self_eq_true _⟩
  · rw [if_neg h1, if_neg h1, if_neg h1]
    by_cases h2 : o.f0 = 2
    · rw [if_pos h2, if_pos h2, if_pos h2]
      obtain ⟨r, e⟩ := h.flush hg
      have hn : d.offE = none ∨ d.offE = some 1 ∨ d.offE = some 3 := by unfold Dk.offE; split <;> simp
      exact ⟨r, by rw [numI_out hn, e]; exact beq_self_eq_true _⟩
    · rw [if_neg h2, if_neg h2, if_neg h2]
      by_cases h4 : o.f0 = 4
      · rw [if_pos h4, if_pos h4, if_pos h4]
        obtain ⟨r, e⟩ := h.arm o.f1
        have hn : (if o.f1 < 0 then some (1 : Int) else none) = none ∨ (if o.f1 < 0 then some (1 : Int) else none) = some 1 ∨ (if o.f1 < 0 then some (1 : Int) else none) = some 3 := by split <;> simp
        exact ⟨r, by rw [numI_out hn, e]; exact beq_self_eq_true _⟩
      · rw [if_neg h4, if_neg h4, if_neg h4]
        by_cases h5 : o.f0 = 5
        · rw [if_pos h5, if_pos h5, if_pos h5]
          exact ⟨h.crash hg o.f3, rfl⟩
        · rw [if_neg h5, if_neg h5, if_neg h5]
          obtain ⟨r, e⟩ := h.read hg o.f1
          have hn : (d.read o.f1).2 = none ∨ (d.read o.f1).2 = some 1 ∨ (d.read o.f1).2 = some 3 := by unfold Dk.read; (repeat' split) <;> simp
          exact ⟨h, by rw [numI_out hn, e, r, decide_eq_true rfl]; simp⟩
theorem act_good {x : Rf} {k : Nat} (hg : x.Good) (hk : x.waiting.length ≤ k) (hk2 : k < 99999) (o : S36) : (actX x o).Good ∧ (actX x o).waiting.length ≤ k + 1 ∧ (actX x o).secs.length = x.secs.length := by
  obtain ⟨r1, r2, r3⟩ := x.step_rest
  have hst : x.step.Good := ⟨by rw [r1, r2]; exact hg.1, by rw [r1]; exact hg.2.1, by rw [r2]; exact hg.2.2⟩
  have hd : ∀ ws, ({ x with secs := doneL x.secs ws, waiting := [] } : Rf).Good := fun ws => ⟨(fun _ h => by cases h), by show 0 < (doneL x.secs ws).length ∧ (doneL x.secs ws).length ≤ 100000; rw [doneL_len]; exact hg.2.1, by simp⟩
  unfold actX
  split
  · unfold Rf.put
    split
    · exact ⟨hg, Nat.le_succ_of_le hk, rfl⟩
    · split
      · refine ⟨⟨fun p hp => ?_, by rw [r1]; exact hg.2.1, by simp; omega⟩, by simp; omega, by rw [r1]⟩
        rw [r1]
        rcases List.mem_append.1 hp with hp | hp
        · exact hg.1 p hp
        · rw [List.mem_singleton] at hp
          subst hp
          dsimp only
          omega
      · exact ⟨hst, by rw [r2]; omega, by rw [r1]⟩
  · split
    · unfold Rf.flush
      split
      · exact ⟨hd x.waiting, by simp, by simp [doneL_len]⟩
      · exact ⟨hst, by rw [r2]; omega, by rw [r1]⟩
    · split
      · unfold Rf.arm
        split
        · exact ⟨hg, Nat.le_succ_of_le hk, rfl⟩
        · exact ⟨hg, Nat.le_succ_of_le hk, rfl⟩
      · split
        · exact ⟨hd _, by simp [Rf.crash], by simp [Rf.crash, doneL_len]⟩
        · exact ⟨hg, by omega, rfl⟩
theorem act_cnt (d : Dk) (o : S36) : (actD d o).cnt + (actD d o).waiting.length ≤ d.cnt + d.waiting.length + 1 := by
  obtain ⟨q1, q2, q3, q4, q5⟩ := d.step_rest
  unfold actD
  split
  · unfold Dk.write
    split
    · split
      · rw [q2, q4]; omega
      · simp only [q2, List.length_append, List.length_singleton]; omega
    · omega
  · split
    · unfold Dk.flush
      split
      · rw [q2, q4]; omega
      · simp only [Dk.settle, q2, q4, List.length_nil]; omega
    · split
      · unfold Dk.arm
        split
        · omega
        · dsimp only; omega
      · split
        · simp only [Dk.crash, Dk.settle, List.length_nil]; omega
        · omega
set_option maxRecDepth 100000 in
set_option maxHeartbeats 8000000 in
theorem stands_calls {B : Nat} {w0 w : World} {m r : List Asr} {v : Value} {d : Dk} {x : Rf} {A1 : Option Addr} {n1 c1 : Nat} {A2 : Option Addr} {n2 c2 : Nat} (H : Cx B w0 w m) (k : At m (.own dkR v d) r) (h : RfAt r x A1 n1 c1 A2 n2 c2) (hg : x.Good) (hrel : Rel d x) :
    Calls Try.prog 26 #[v, .agg (rfC A1 n1 c1 A2 n2 c2 x.steps x.left x.armed x.gone)] w fun e w1 => e = .returned (.bool true) ∧ Cx B w0 w1 (.own dkR v d :: r) := by
  have hz := dk_zero
  have h26 := Try.underlying26
  have h28 := Try.underlying28
  have hu50 := Try.underlying50
  have H0 := H.find k
  clear H k
  obtain ⟨g1, rfl, hn1, hn2, h1, h2⟩ := h.rows H0.tail hg.2.1.1
  have hdl : d.waiting.length < 1000000 := by rw [hrel.waiting]; have := hg.2.2; omega
  have HN1 := Aside0.mk hn1
  have HN2 := Aside0.mk hn2
  have HG := Aside0.mk hg
  have HR := Aside0.mk h
  have HREL := Aside0.mk hrel
  clear hg h hrel hn1 hn2 h1 h2 hdl
  have hnb : n1 ≤ 100000 := by have := HG.out.2.1; have := HN1.out; omega
  obtain ⟨gn, hgn⟩ : ∃ gn, x.gone = gn := ⟨_, rfl⟩
  rw [hgn]
  have HGN := Aside0.mk hgn
  clear hgn
  go_enter Try.func26, Try.ntmps26
  go_wp2_with fail
  ((first | apply Cx.genCall | apply Cx.genCode | apply Cx.genList); (focus ((repeat (with_reducible (first | exact (H0).toS | exact At.here | apply At.there | apply CxS.drewN | apply CxS.drew | apply CxS.alloc | apply CxS.set | apply CxS.setRow))))); clear H0; intro wa Ha)
  (try simp only [List.setIfInBounds_toArray, List.set_cons_zero, List.set_cons_succ] at Ha)
  go_loopw [14] (fun v14 wr => ∃ j : Nat, j ≤ n1 ∧ v14 = .int .i64 j ∧ Cx B w0 wr (.blk w.heap.size (.cells (rfC (some ⟨g1, 0, none⟩) n1 c1 A2 n2 c2 x.steps x.left x.armed gn) 50 (0, 0)) :: .own dkR v d :: r)) (fun v14 _ => n1 - (intOf v14).toNat)
  case atStart => exact ⟨0, by omega, rfl, Ha⟩
  case round =>
    clear Ha
    obtain ⟨j, hj, rfl, HL⟩ := hrel
    by_cases hjl : j < n1
    · have hj0 : (0 : Int) ≤ (j : Int) := by omega
      have hj1 : (j : Int) < (n1 : Int) := by omega
      have hlx : j < x.secs.length := by have := HN1.out; omega
      obtain ⟨s, hs⟩ : ∃ s, x.secs[j]? = some s := ⟨_, List.getElem?_eq_getElem hlx⟩
      have hsure : d.sure (j : Int) = s := by
        rw [HREL.out.sure, if_pos (by omega), Int.toNat_natCast, List.getD_eq_getElem?_getD, hs, Option.getD_some]
      obtain ⟨g1', eg, hq1, hq2, hr1, hr2⟩ := HR.out.rows HL.tail.tail HG.out.2.1.1
      injection eg with eg
      injection eg with eg
      subst eg
      have hsl : s.length = 128 := by simpa using hr1.2.2.1 s (List.mem_of_getElem? hs)
      obtain ⟨g1', eg, hrow⟩ := hr1.2.2.2 j s hs
      injection eg with eg
      injection eg with eg
      subst eg
      have HSL := Aside0.mk hsl
      have HSU := Aside0.mk hsure
      have hwf : (Lit.int .i64 (j : Int)).wf = true := by have := HG.out.2.1; have := HN1.out; simp [Lit.wf, IntKind.min, IntKind.max, IntKind.signed, IntKind.bits]; omega
      have HWF := Aside0.mk hwf
      have HRD := Aside0.mk (HREL.out.read HG.out (j : Int))
      have hi1 : (Try.prog.info? 34).map (·.size) = some (secE s).length := by rw [List.length_map, HSL.out]; exact dk_info
      clear hsl hsure hwf hq1 hq2 hr1 hr2 hlx hs
      have F : True := trivial
      go_wp2_with (first
        | ((with_reducible refine gate_load (t := 34) (x := .tmp 17) rfl ?_); refine wpList_load_mid rfl 34 (.tmp 17) rfl (g1) (j * 128) rfl (secE s) _ (hrow) Try.underlying34 rfl (hi1) ?_)
        | (((with_reducible refine gate_store (t := 34) (x := .tmp 6) (y := .tmp 18) rfl ?_); (apply Cx.atList); (focus ((repeat (with_reducible (first | exact (HL).toS | exact At.here | apply At.there | apply CxS.drewN | apply CxS.drew | apply CxS.alloc | apply CxS.set | apply CxS.setRow))))); intro HT_; refine wpList_store_row rfl 34 (.tmp 6) (.tmp 18) rfl (wr.heap.size) (u8A s) rfl rfl _ _ (HT_.blk (by repeat (with_reducible (first | exact At.here | apply At.there)))) (dk_isz HSL.out) (by rw [u8A_size, u8A_size, sz0_len, HSL.out]) (u8A_one _) ?_; clear HT_); clear F; (apply Cx.genList); (focus ((repeat (with_reducible (first | exact (HL).toS | exact At.here | apply At.there | apply CxS.drewN | apply CxS.drew | apply CxS.alloc | apply CxS.set | apply CxS.setRow))))); clear HL; intro wb Hb; have F := (Hb).facts; simp only [factsOf, Asr.facts, blkFacts, cellsAre, List.toList_toArray, forall_const, Nat.zero_add, Nat.reduceAdd, and_true, true_and] at F))
      clear F hrow
      have heq : ∀ W, (Op.equalIn 10000 34 (.agg (u8A s)) (.agg (secE s).toArray)).run Try.prog W = .ok true W := fun W => by have := dk_eql _ _ HSL.out HSL.out W; rwa [decide_eq_true rfl] at this
      have Hx := (Hb.toS.drew).cx
      clear Hb
      refine wp_region_held_drew (S := fun W => W.rangeAt wr.heap.size 0 (secE s)) (by kernel_rfl) (rangeAt_u8A (Hx.blk (b := wr.heap.size) (o := .cells (u8A s) 34 (0, 0)) (by repeat (with_reducible (first | exact At.here | apply At.there))))) (fun hH_ => ?_)
      (refine wpAnyH_take (i := 0) (v := ?_) rfl (by kernel_rfl) (by kernel_rfl) (by kernel_rfl) (fun _ _ _ h => h) (Or.inl ⟨by rfl, ?_⟩) hH_ ?_; rotate_left; (focus (intro w_ hSw_; go_simp; try (with_reducible rfl))); simp only [List.getElem_toArray, List.getElem_cons_succ, List.getElem_cons_zero, Act.put, List.setIfInBounds_toArray, List.set_cons_zero, List.set_cons_succ])
      (refine wpAnyH_take (i := 1) (v := ?_) rfl (by kernel_rfl) (by kernel_rfl) (by kernel_rfl) (fun _ _ _ h => h) (Or.inl ⟨by rfl, ?_⟩) hH_ ?_; rotate_left; (focus (intro w_ hSw_; go_simp; try (with_reducible rfl))); simp only [List.getElem_toArray, List.getElem_cons_succ, List.getElem_cons_zero, Act.put, List.setIfInBounds_toArray, List.set_cons_zero, List.set_cons_succ])
      (refine wpAnyH_take (i := 3) rfl (by kernel_rfl) (by kernel_rfl) (by kernel_rfl) (fun _ _ _ h => h) (yieldsIf_load_mid (by rfl) 34 (.tmp 6) rfl (wr.heap.size) (0) rfl (secE s) _ (fun W h => h) Try.underlying34 rfl (hi1)) hH_ ?_; simp only [List.getElem_toArray, List.getElem_cons_succ, List.getElem_cons_zero, Act.put, List.setIfInBounds_toArray, List.set_cons_zero, List.set_cons_succ])
      (refine wpAnyH_ready (rs := [2]) (by kernel_rfl) (by simp) ?_; refine AllReadyH.cons rfl (fun K hK => ?_) AllReadyH.nil; go_simp; go_at_call 17; refine (dk_sure (d := d) (j : Int) HWF.out Hx (by repeat (with_reducible (first | exact At.here | apply At.there)))).mono ?_; rintro e w' ⟨rfl, HS⟩; rw [HSU.out]; (try go_simp); refine hK.out _ _ (rangeAt_u8A (HS.blk (b := wr.heap.size) (o := .cells (u8A s) 34 (0, 0)) (by repeat (with_reducible (first | exact At.here | apply At.there))))) (fun hH2_ => ?_); clear hK K hH_; have hH_ := hH2_; clear hH2_; try simp only [List.getElem_toArray, List.getElem_cons_succ, List.getElem_cons_zero, Act.put, List.setIfInBounds_toArray, List.set_cons_zero, List.set_cons_succ])
      (refine wpAnyH_take (i := 4) (v := ?_) rfl (by kernel_rfl) (by kernel_rfl) (by kernel_rfl) (fun _ _ _ h => h) (Or.inl ⟨by rfl, ?_⟩) hH_ ?_; rotate_left; (focus (intro w_ hSw_; go_simp; try (with_reducible rfl))); simp only [List.getElem_toArray, List.getElem_cons_succ, List.getElem_cons_zero, Act.put, List.setIfInBounds_toArray, List.set_cons_zero, List.set_cons_succ])
      refine wpAnyH_done (by kernel_rfl) ?_ _
      clear hH_ heq hi1 Hx
      have Hb := HS.drop (a := .blk wr.heap.size _) (by repeat (with_reducible (first | exact At.here | apply At.there)))
      clear HS
      go_wp2_with fail
      refine (dk_read (d := d) (j : Int) HWF.out Hb (by repeat (with_reducible (first | exact At.here | apply At.there))) (by rw [HREL.out.waiting]; exact HG.out.2.2)).mono ?_
      rintro e wc ⟨rfl, Hc⟩
      clear Hb
      have hl1 := dk_readLen (d := d) (j : Int) Hc (by repeat (with_reducible (first | exact At.here | apply At.there)))
      have HL1 := Aside0.mk hl1
      clear hl1
      have F : True := trivial
      cases gn
      · have hdr : (d.read (j : Int)).2 = none := by
          unfold Dk.read
          rw [HREL.out.gone, HGN.out, HREL.out.has, decide_eq_true (by have := HN1.out; omega), if_neg (by simp), if_neg (by simp)]
        rw [hdr, errW_none]
        clear hdr
        go_wp2_with (((with_reducible refine gate_store (t := 34) (x := .tmp 7) (y := .tmp 28) rfl ?_); (apply Cx.atList); (focus ((repeat (with_reducible (first | exact (Hc).toS | exact At.here | apply At.there | apply CxS.drewN | apply CxS.drew | apply CxS.alloc | apply CxS.set | apply CxS.setRow))))); intro HT_; refine wpList_store_row rfl 34 (.tmp 7) (.tmp 28) rfl (wc.heap.size) (u8A (d.read (j : Int)).1) rfl rfl _ _ (HT_.blk (by repeat (with_reducible (first | exact At.here | apply At.there)))) (dk_isz HL1.out) (by rw [u8A_size, u8A_size, sz0_len, HL1.out]) (u8A_one _) ?_; clear HT_); clear F; (apply Cx.genList); (focus ((repeat (with_reducible (first | exact (Hc).toS | exact At.here | apply At.there | apply CxS.drewN | apply CxS.drew | apply CxS.alloc | apply CxS.set | apply CxS.setRow))))); clear Hc; intro we He; have F := (He).facts; simp only [factsOf, Asr.facts, blkFacts, cellsAre, List.toList_toArray, forall_const, Nat.zero_add, Nat.reduceAdd, and_true, true_and] at F)
        have hrr := rf_read (x := x) (j : Int) He (((HR.out.cons _).cons _).cons _) HG.out
        rw [HGN.out, ← HRD.out.1] at hrr
        refine hrr.mono ?_
        clear hrr
        rintro e wf ⟨rfl, Hf, _⟩
        clear He F
        have F : True := trivial
        have heq : ∀ W, (Op.equalIn 10000 34 (.agg (u8A (d.read (j : Int)).1)) (.agg (u8A (d.read (j : Int)).1))).run Try.prog W = .ok true W := fun W => by have := dk_eql _ _ HL1.out HL1.out W; rwa [decide_eq_true rfl] at this
        go_wp2_with (first
          | (((with_reducible refine gate_store (t := 34) (x := .tmp 9) (y := .tmp 37) rfl ?_); (apply Cx.atList); (focus ((repeat (with_reducible (first | exact (Hf).toS | exact At.here | apply At.there | apply CxS.drewN | apply CxS.drew | apply CxS.alloc | apply CxS.set | apply CxS.setRow))))); intro HT_; refine wpList_store_row rfl 34 (.tmp 9) (.tmp 37) rfl (wf.heap.size) (u8A (d.read (j : Int)).1) rfl rfl _ _ (HT_.blk (by repeat (with_reducible (first | exact At.here | apply At.there)))) (dk_isz HL1.out) (by rw [u8A_size, u8A_size, sz0_len, HL1.out]) (u8A_one _) ?_; clear HT_); clear F; (apply Cx.genList); (focus ((repeat (with_reducible (first | exact (Hf).toS | exact At.here | apply At.there | apply CxS.drewN | apply CxS.drew | apply CxS.alloc | apply CxS.set | apply CxS.setRow))))); clear Hf; intro wg Hg; have F := (Hg).facts; simp only [factsOf, Asr.facts, blkFacts, cellsAre, List.toList_toArray, forall_const, Nat.zero_add, Nat.reduceAdd, and_true, true_and] at F)
          | ((with_reducible refine gate_load (t := 34) (x := .tmp 7) rfl ?_); (apply Cx.atList); (focus ((repeat (with_reducible (first | exact (Hg).toS | exact At.here | apply At.there | apply CxS.drewN | apply CxS.drew | apply CxS.alloc | apply CxS.set | apply CxS.setRow))))); intro HT_; refine wpList_load_row_g rfl 34 (.tmp 7) rfl (wc.heap.size) rfl _ (u8A (d.read (j : Int)).1) _ _ (HT_.blk (by repeat (with_reducible (first | exact At.here | apply At.there)))) Try.underlying34 rfl (dk_isz HL1.out) ?_; clear HT_)
          | ((with_reducible refine gate_load (t := 34) (x := .tmp 9) rfl ?_); (apply Cx.atList); (focus ((repeat (with_reducible (first | exact (Hg).toS | exact At.here | apply At.there | apply CxS.drewN | apply CxS.drew | apply CxS.alloc | apply CxS.set | apply CxS.setRow))))); intro HT_; refine wpList_load_row_g rfl 34 (.tmp 9) rfl (wf.heap.size) rfl _ (u8A (d.read (j : Int)).1) _ _ (HT_.blk (by repeat (with_reducible (first | exact At.here | apply At.there)))) Try.underlying34 rfl (dk_isz HL1.out) ?_; clear HT_))
        exact ⟨⟨j + 1, by omega, by go_num, ((Hg.drop (a := .blk wc.heap.size _) (by repeat (with_reducible (first | exact At.here | apply At.there)))).drop (a := .blk wf.heap.size _) (by repeat (with_reducible (first | exact At.here | apply At.there)))).find (a := .blk w.heap.size _) (by repeat (with_reducible (first | exact At.here | apply At.there)))⟩, by simp [intOf]; omega⟩
      · go_wp2_with (((with_reducible refine gate_store (t := 34) (x := .tmp 7) (y := .tmp 28) rfl ?_); (apply Cx.atList); (focus ((repeat (with_reducible (first | exact (Hc).toS | exact At.here | apply At.there | apply CxS.drewN | apply CxS.drew | apply CxS.alloc | apply CxS.set | apply CxS.setRow))))); intro HT_; refine wpList_store_row rfl 34 (.tmp 7) (.tmp 28) rfl (wc.heap.size) (u8A (d.read (j : Int)).1) rfl rfl _ _ (HT_.blk (by repeat (with_reducible (first | exact At.here | apply At.there)))) (dk_isz HL1.out) (by rw [u8A_size, u8A_size, sz0_len, HL1.out]) (u8A_one _) ?_; clear HT_); clear F; (apply Cx.genList); (focus ((repeat (with_reducible (first | exact (Hc).toS | exact At.here | apply At.there | apply CxS.drewN | apply CxS.drew | apply CxS.alloc | apply CxS.set | apply CxS.setRow))))); clear Hc; intro we He; have F := (He).facts; simp only [factsOf, Asr.facts, blkFacts, cellsAre, List.toList_toArray, forall_const, Nat.zero_add, Nat.reduceAdd, and_true, true_and] at F)
        exact ⟨⟨j + 1, by omega, by go_num, (He.drop (a := .blk wc.heap.size _) (by repeat (with_reducible (first | exact At.here | apply At.there)))).find (a := .blk w.heap.size _) (by repeat (with_reducible (first | exact At.here | apply At.there)))⟩, by simp [intOf]; omega⟩
    · obtain rfl : j = n1 := by omega
      have HSZ : Aside0 (d.size = (j : Int)) := ⟨by rw [HREL.out.size, HN1.out]⟩
      have HWL : Aside0 ((d.waiting.length : Int) = (n2 : Int)) := ⟨by rw [HREL.out.waiting, HN2.out]⟩
      have HGD : Aside0 (d.gone = gn) := ⟨HREL.out.gone.trans HGN.out⟩
      have HS1 : Aside0 (d.sure (-1) = sz0) := ⟨by rw [HREL.out.sure, if_neg (by omega)]⟩
      have HS2 : Aside0 (d.sure (j : Int) = sz0) := ⟨by rw [HREL.out.sure, if_neg (by have := HN1.out; omega)]⟩
      have HWF : Aside0 ((Lit.int .i64 (j : Int)).wf = true) := ⟨by simp [Lit.wf, IntKind.min, IntKind.max, IntKind.signed, IntKind.bits]; omega⟩
      have heq : ∀ W, (Op.equalIn 10000 34 (.agg (u8A sz0)) (.agg (u8A sz0))).run Try.prog W = .ok true W := fun W => by have := dk_eql _ _ sz0_len sz0_len W; rwa [decide_eq_true rfl] at this
      go_wp2_with fail
      refine wp_region_held_drew (S := fun W => Cx B w0 W (.blk w.heap.size (.cells (rfC (some ⟨g1, 0, none⟩) j c1 A2 n2 c2 x.steps x.left x.armed gn) 50 (0, 0)) :: .own dkR v d :: r)) (by kernel_rfl) ((HL.toS.drew).cx) (fun hH_ => ?_)
      clear HL
      (refine wpAnyH_take (i := 0) (v := ?_) rfl (by kernel_rfl) (by kernel_rfl) (by kernel_rfl) (fun _ _ _ h => h) (Or.inl ⟨by rfl, ?_⟩) hH_ ?_; rotate_left; (focus (intro w_ hSw_; go_simp; try (with_reducible rfl))); simp only [List.getElem_toArray, List.getElem_cons_succ, List.getElem_cons_zero, Act.put, List.setIfInBounds_toArray, List.set_cons_zero, List.set_cons_succ])
      (refine wpAnyH_take (i := 2) (v := ?_) rfl (by kernel_rfl) (by kernel_rfl) (by kernel_rfl) (fun _ _ _ h => h) (Or.inl ⟨by rfl, ?_⟩) hH_ ?_; rotate_left; (focus (intro w_ hSw_; go_simp; try (with_reducible rfl))); simp only [List.getElem_toArray, List.getElem_cons_succ, List.getElem_cons_zero, Act.put, List.setIfInBounds_toArray, List.set_cons_zero, List.set_cons_succ])
      (refine wpAnyH_take (i := 3) rfl (by kernel_rfl) (by kernel_rfl) (by kernel_rfl) (fun _ _ _ h => h) (yieldsIf_load_cell (by rfl) 31 (.tmp 49) rfl (w.heap.size) (0) rfl (.slice (some ⟨g1, 0, none⟩) j c1) (run_isAgg_plain Try.underlying31 rfl) (fun W h => (cell_of (h.blk At.here) 0).trans rfl)) hH_ ?_; simp only [List.getElem_toArray, List.getElem_cons_succ, List.getElem_cons_zero, Act.put, List.setIfInBounds_toArray, List.set_cons_zero, List.set_cons_succ])
      (refine wpAnyH_take (i := 4) (v := ?_) rfl (by kernel_rfl) (by kernel_rfl) (by kernel_rfl) (fun _ _ _ h => h) (Or.inl ⟨by rfl, ?_⟩) hH_ ?_; rotate_left; (focus (intro w_ hSw_; go_simp; try (with_reducible rfl))); simp only [List.getElem_toArray, List.getElem_cons_succ, List.getElem_cons_zero, Act.put, List.setIfInBounds_toArray, List.set_cons_zero, List.set_cons_succ])
      (refine wpAnyH_ready (rs := [1]) (by kernel_rfl) (by simp) ?_; refine AllReadyH.cons rfl (fun K hK => ?_) AllReadyH.nil; go_simp; go_at_call 25; refine (dk_len (d := d) hH_ (At.there At.here)).mono ?_; rintro e w' ⟨rfl, rfl⟩; rw [HSZ.out]; (try go_simp); refine hK.out _ _ (hH_) (fun hH2_ => ?_); clear hK K hH_; have hH_ := hH2_; clear hH2_; try simp only [List.getElem_toArray, List.getElem_cons_succ, List.getElem_cons_zero, Act.put, List.setIfInBounds_toArray, List.set_cons_zero, List.set_cons_succ])
      (refine wpAnyH_take (i := 5) (v := ?_) rfl (by kernel_rfl) (by kernel_rfl) (by kernel_rfl) (fun _ _ _ h => h) (Or.inl ⟨by rfl, ?_⟩) hH_ ?_; rotate_left; (focus (intro w_ hSw_; go_simp; try (with_reducible rfl))); simp only [List.getElem_toArray, List.getElem_cons_succ, List.getElem_cons_zero, Act.put, List.setIfInBounds_toArray, List.set_cons_zero, List.set_cons_succ])
      (refine wpAnyH_take (i := 6) (v := ?_) rfl (by kernel_rfl) (by kernel_rfl) (by kernel_rfl) (fun _ _ _ h => h) (Or.inl ⟨by rfl, ?_⟩) hH_ ?_; rotate_left; (focus (intro w_ hSw_; go_simp; try (with_reducible rfl))); simp only [List.getElem_toArray, List.getElem_cons_succ, List.getElem_cons_zero, Act.put, List.setIfInBounds_toArray, List.set_cons_zero, List.set_cons_succ])
      (refine wpAnyH_take (i := 7) (v := ?_) rfl (by kernel_rfl) (by kernel_rfl) (by kernel_rfl) (fun _ _ _ h => h) (Or.inl ⟨by rfl, ?_⟩) hH_ ?_; rotate_left; (focus (intro w_ hSw_; go_simp; try (with_reducible rfl))); simp only [List.getElem_toArray, List.getElem_cons_succ, List.getElem_cons_zero, Act.put, List.setIfInBounds_toArray, List.set_cons_zero, List.set_cons_succ])
      (refine wpAnyH_take (i := 9) (v := ?_) rfl (by kernel_rfl) (by kernel_rfl) (by kernel_rfl) (fun _ _ _ h => h) (Or.inl ⟨by rfl, ?_⟩) hH_ ?_; rotate_left; (focus (intro w_ hSw_; go_simp; try (with_reducible rfl))); simp only [List.getElem_toArray, List.getElem_cons_succ, List.getElem_cons_zero, Act.put, List.setIfInBounds_toArray, List.set_cons_zero, List.set_cons_succ])
      (refine wpAnyH_take (i := 10) rfl (by kernel_rfl) (by kernel_rfl) (by kernel_rfl) (fun _ _ _ h => h) (yieldsIf_load_cell (by rfl) 48 (.tmp 56) rfl (w.heap.size) (1) rfl (.slice A2 n2 c2) (run_isAgg_plain Try.underlying48 rfl) (fun W h => (cell_of (h.blk At.here) 1).trans rfl)) hH_ ?_; simp only [List.getElem_toArray, List.getElem_cons_succ, List.getElem_cons_zero, Act.put, List.setIfInBounds_toArray, List.set_cons_zero, List.set_cons_succ])
      (refine wpAnyH_take (i := 11) (v := ?_) rfl (by kernel_rfl) (by kernel_rfl) (by kernel_rfl) (fun _ _ _ h => h) (Or.inl ⟨by rfl, ?_⟩) hH_ ?_; rotate_left; (focus (intro w_ hSw_; go_simp; try (with_reducible rfl))); simp only [List.getElem_toArray, List.getElem_cons_succ, List.getElem_cons_zero, Act.put, List.setIfInBounds_toArray, List.set_cons_zero, List.set_cons_succ])
      (refine wpAnyH_ready (rs := [8]) (by kernel_rfl) (by simp) ?_; refine AllReadyH.cons rfl (fun K hK => ?_) AllReadyH.nil; go_simp; go_at_call 18; refine (dk_waiting (d := d) hH_ (At.there At.here)).mono ?_; rintro e w' ⟨rfl, rfl⟩; rw [HWL.out]; (try go_simp); refine hK.out _ _ (hH_) (fun hH2_ => ?_); clear hK K hH_; have hH_ := hH2_; clear hH2_; try simp only [List.getElem_toArray, List.getElem_cons_succ, List.getElem_cons_zero, Act.put, List.setIfInBounds_toArray, List.set_cons_zero, List.set_cons_succ])
      (refine wpAnyH_take (i := 12) (v := ?_) rfl (by kernel_rfl) (by kernel_rfl) (by kernel_rfl) (fun _ _ _ h => h) (Or.inl ⟨by rfl, ?_⟩) hH_ ?_; rotate_left; (focus (intro w_ hSw_; go_simp; try (with_reducible rfl))); simp only [List.getElem_toArray, List.getElem_cons_succ, List.getElem_cons_zero, Act.put, List.setIfInBounds_toArray, List.set_cons_zero, List.set_cons_succ])
      (refine wpAnyH_take (i := 13) (v := ?_) rfl (by kernel_rfl) (by kernel_rfl) (by kernel_rfl) (fun _ _ _ h => h) (Or.inl ⟨by rfl, ?_⟩) hH_ ?_; rotate_left; (focus (intro w_ hSw_; go_simp; try (with_reducible rfl))); simp only [List.getElem_toArray, List.getElem_cons_succ, List.getElem_cons_zero, Act.put, List.setIfInBounds_toArray, List.set_cons_zero, List.set_cons_succ])
      (refine wpAnyH_take (i := 14) (v := ?_) rfl (by kernel_rfl) (by kernel_rfl) (by kernel_rfl) (fun _ _ _ h => h) (Or.inl ⟨by rfl, ?_⟩) hH_ ?_; rotate_left; (focus (intro w_ hSw_; go_simp; try (with_reducible rfl))); simp only [List.getElem_toArray, List.getElem_cons_succ, List.getElem_cons_zero, Act.put, List.setIfInBounds_toArray, List.set_cons_zero, List.set_cons_succ])
      (refine wpAnyH_take (i := 15) (v := ?_) rfl (by kernel_rfl) (by kernel_rfl) (by kernel_rfl) (fun _ _ _ h => h) (Or.inl ⟨by rfl, ?_⟩) hH_ ?_; rotate_left; (focus (intro w_ hSw_; go_simp; try (with_reducible rfl))); simp only [List.getElem_toArray, List.getElem_cons_succ, List.getElem_cons_zero, Act.put, List.setIfInBounds_toArray, List.set_cons_zero, List.set_cons_succ])
      (refine wpAnyH_take (i := 17) (v := ?_) rfl (by kernel_rfl) (by kernel_rfl) (by kernel_rfl) (fun _ _ _ h => h) (Or.inl ⟨by rfl, ?_⟩) hH_ ?_; rotate_left; (focus (intro w_ hSw_; go_simp; try (with_reducible rfl))); simp only [List.getElem_toArray, List.getElem_cons_succ, List.getElem_cons_zero, Act.put, List.setIfInBounds_toArray, List.set_cons_zero, List.set_cons_succ])
      (refine wpAnyH_take (i := 18) rfl (by kernel_rfl) (by kernel_rfl) (by kernel_rfl) (fun _ _ _ h => h) (yieldsIf_load_cell (by rfl) 3 (.tmp 64) rfl (w.heap.size) (2) rfl (.int .i64 x.steps) (run_isAgg_plain Try.underlying3 rfl) (fun W h => (cell_of (h.blk At.here) 2).trans rfl)) hH_ ?_; simp only [List.getElem_toArray, List.getElem_cons_succ, List.getElem_cons_zero, Act.put, List.setIfInBounds_toArray, List.set_cons_zero, List.set_cons_succ])
      (refine wpAnyH_ready (rs := [16]) (by kernel_rfl) (by simp) ?_; refine AllReadyH.cons rfl (fun K hK => ?_) AllReadyH.nil; go_simp; go_at_call 21; refine (dk_steps (d := d) hH_ (At.there At.here)).mono ?_; rintro e w' ⟨rfl, rfl⟩; rw [HREL.out.steps]; (try go_simp); refine hK.out _ _ (hH_) (fun hH2_ => ?_); clear hK K hH_; have hH_ := hH2_; clear hH2_; try simp only [List.getElem_toArray, List.getElem_cons_succ, List.getElem_cons_zero, Act.put, List.setIfInBounds_toArray, List.set_cons_zero, List.set_cons_succ])
      (refine wpAnyH_take (i := 19) (v := ?_) rfl (by kernel_rfl) (by kernel_rfl) (by kernel_rfl) (fun _ _ _ h => h) (Or.inl ⟨by rfl, ?_⟩) hH_ ?_; rotate_left; (focus (intro w_ hSw_; go_simp; try (with_reducible rfl))); simp only [List.getElem_toArray, List.getElem_cons_succ, List.getElem_cons_zero, Act.put, List.setIfInBounds_toArray, List.set_cons_zero, List.set_cons_succ])
      (refine wpAnyH_take (i := 20) (v := ?_) rfl (by kernel_rfl) (by kernel_rfl) (by kernel_rfl) (fun _ _ _ h => h) (Or.inl ⟨by rfl, ?_⟩) hH_ ?_; rotate_left; (focus (intro w_ hSw_; go_simp; try (with_reducible rfl))); simp only [List.getElem_toArray, List.getElem_cons_succ, List.getElem_cons_zero, Act.put, List.setIfInBounds_toArray, List.set_cons_zero, List.set_cons_succ])
      (refine wpAnyH_take (i := 21) (v := ?_) rfl (by kernel_rfl) (by kernel_rfl) (by kernel_rfl) (fun _ _ _ h => h) (Or.inl ⟨by rfl, ?_⟩) hH_ ?_; rotate_left; (focus (intro w_ hSw_; go_simp; try (with_reducible rfl))); simp only [List.getElem_toArray, List.getElem_cons_succ, List.getElem_cons_zero, Act.put, List.setIfInBounds_toArray, List.set_cons_zero, List.set_cons_succ])
      (refine wpAnyH_take (i := 22) (v := ?_) rfl (by kernel_rfl) (by kernel_rfl) (by kernel_rfl) (fun _ _ _ h => h) (Or.inl ⟨by rfl, ?_⟩) hH_ ?_; rotate_left; (focus (intro w_ hSw_; go_simp; try (with_reducible rfl))); simp only [List.getElem_toArray, List.getElem_cons_succ, List.getElem_cons_zero, Act.put, List.setIfInBounds_toArray, List.set_cons_zero, List.set_cons_succ])
      (refine wpAnyH_take (i := 24) (v := ?_) rfl (by kernel_rfl) (by kernel_rfl) (by kernel_rfl) (fun _ _ _ h => h) (Or.inl ⟨by rfl, ?_⟩) hH_ ?_; rotate_left; (focus (intro w_ hSw_; go_simp; try (with_reducible rfl))); simp only [List.getElem_toArray, List.getElem_cons_succ, List.getElem_cons_zero, Act.put, List.setIfInBounds_toArray, List.set_cons_zero, List.set_cons_succ])
      (refine wpAnyH_take (i := 25) rfl (by kernel_rfl) (by kernel_rfl) (by kernel_rfl) (fun _ _ _ h => h) (yieldsIf_load_cell (by rfl) 4 (.tmp 71) rfl (w.heap.size) (5) rfl (.bool gn) (run_isAgg_plain Try.underlying4 rfl) (fun W h => (cell_of (h.blk At.here) 5).trans rfl)) hH_ ?_; simp only [List.getElem_toArray, List.getElem_cons_succ, List.getElem_cons_zero, Act.put, List.setIfInBounds_toArray, List.set_cons_zero, List.set_cons_succ])
      (refine wpAnyH_ready (rs := [23]) (by kernel_rfl) (by simp) ?_; refine AllReadyH.cons rfl (fun K hK => ?_) AllReadyH.nil; go_simp; go_at_call 19; refine (dk_down (d := d) hH_ (At.there At.here)).mono ?_; rintro e w' ⟨rfl, rfl⟩; rw [HGD.out]; (try go_simp); refine hK.out _ _ (hH_) (fun hH2_ => ?_); clear hK K hH_; have hH_ := hH2_; clear hH2_; try simp only [List.getElem_toArray, List.getElem_cons_succ, List.getElem_cons_zero, Act.put, List.setIfInBounds_toArray, List.set_cons_zero, List.set_cons_succ])
      (refine wpAnyH_take (i := 26) (v := ?_) rfl (by kernel_rfl) (by kernel_rfl) (by kernel_rfl) (fun _ _ _ h => h) (Or.inl ⟨by rfl, ?_⟩) hH_ ?_; rotate_left; (focus (intro w_ hSw_; go_simp; try (with_reducible rfl))); simp only [List.getElem_toArray, List.getElem_cons_succ, List.getElem_cons_zero, Act.put, List.setIfInBounds_toArray, List.set_cons_zero, List.set_cons_succ])
      (refine wpAnyH_take (i := 27) (v := ?_) rfl (by kernel_rfl) (by kernel_rfl) (by kernel_rfl) (fun _ _ _ h => h) (Or.inl ⟨by rfl, ?_⟩) hH_ ?_; rotate_left; (focus (intro w_ hSw_; go_simp; try (with_reducible rfl))); simp only [List.getElem_toArray, List.getElem_cons_succ, List.getElem_cons_zero, Act.put, List.setIfInBounds_toArray, List.set_cons_zero, List.set_cons_succ])
      (refine wpAnyH_take (i := 28) (v := ?_) rfl (by kernel_rfl) (by kernel_rfl) (by kernel_rfl) (fun _ _ _ h => h) (Or.inl ⟨by rfl, ?_⟩) hH_ ?_; rotate_left; (focus (intro w_ hSw_; go_simp; try (with_reducible rfl))); simp only [List.getElem_toArray, List.getElem_cons_succ, List.getElem_cons_zero, Act.put, List.setIfInBounds_toArray, List.set_cons_zero, List.set_cons_succ])
      (refine wpAnyH_take (i := 29) (v := ?_) rfl (by kernel_rfl) (by kernel_rfl) (by kernel_rfl) (fun _ _ _ h => h) (Or.inl ⟨by rfl, ?_⟩) hH_ ?_; rotate_left; (focus (intro w_ hSw_; go_simp; try (with_reducible rfl))); simp only [List.getElem_toArray, List.getElem_cons_succ, List.getElem_cons_zero, Act.put, List.setIfInBounds_toArray, List.set_cons_zero, List.set_cons_succ])
      (refine wpAnyH_take (i := 31) (v := .agg (u8A sz0)) rfl (by kernel_rfl) (by kernel_rfl) (by kernel_rfl) (fun _ _ _ h => h) (Or.inl ⟨by rfl, fun W _ => exec_build 34 #[] rfl #[] rfl (dk_zerob W)⟩) hH_ ?_; simp only [List.getElem_toArray, List.getElem_cons_succ, List.getElem_cons_zero, Act.put, List.setIfInBounds_toArray, List.set_cons_zero, List.set_cons_succ])
      (refine wpAnyH_ready (rs := [30]) (by kernel_rfl) (by simp) ?_; refine AllReadyH.cons rfl (fun K hK => ?_) AllReadyH.nil; go_simp; go_at_call 17; refine (dk_sure (d := d) (-1) (by rfl) hH_ (At.there At.here)).mono ?_; rintro e w' ⟨rfl, HS⟩; rw [HS1.out]; (try go_simp); refine hK.out _ _ (HS.find (At.there At.here)) (fun hH2_ => ?_); clear hK K hH_; have hH_ := hH2_; clear hH2_; try simp only [List.getElem_toArray, List.getElem_cons_succ, List.getElem_cons_zero, Act.put, List.setIfInBounds_toArray, List.set_cons_zero, List.set_cons_succ])
      (refine wpAnyH_take (i := 32) (v := ?_) rfl (by kernel_rfl) (by kernel_rfl) (by kernel_rfl) (fun _ _ _ h => h) (Or.inl ⟨by rfl, ?_⟩) hH_ ?_; rotate_left; (focus (intro w_ hSw_; go_simp; try (with_reducible rfl))); simp only [List.getElem_toArray, List.getElem_cons_succ, List.getElem_cons_zero, Act.put, List.setIfInBounds_toArray, List.set_cons_zero, List.set_cons_succ])
      (refine wpAnyH_take (i := 33) (v := ?_) rfl (by kernel_rfl) (by kernel_rfl) (by kernel_rfl) (fun _ _ _ h => h) (Or.inl ⟨by rfl, ?_⟩) hH_ ?_; rotate_left; (focus (intro w_ hSw_; go_simp; try (with_reducible rfl))); simp only [List.getElem_toArray, List.getElem_cons_succ, List.getElem_cons_zero, Act.put, List.setIfInBounds_toArray, List.set_cons_zero, List.set_cons_succ])
      (refine wpAnyH_take (i := 34) (v := ?_) rfl (by kernel_rfl) (by kernel_rfl) (by kernel_rfl) (fun _ _ _ h => h) (Or.inl ⟨by rfl, ?_⟩) hH_ ?_; rotate_left; (focus (intro w_ hSw_; go_simp; try (with_reducible rfl))); simp only [List.getElem_toArray, List.getElem_cons_succ, List.getElem_cons_zero, Act.put, List.setIfInBounds_toArray, List.set_cons_zero, List.set_cons_succ])
      (refine wpAnyH_take (i := 35) (v := ?_) rfl (by kernel_rfl) (by kernel_rfl) (by kernel_rfl) (fun _ _ _ h => h) (Or.inl ⟨by rfl, ?_⟩) hH_ ?_; rotate_left; (focus (intro w_ hSw_; go_simp; try (with_reducible rfl))); simp only [List.getElem_toArray, List.getElem_cons_succ, List.getElem_cons_zero, Act.put, List.setIfInBounds_toArray, List.set_cons_zero, List.set_cons_succ])
      (refine wpAnyH_take (i := 36) (v := ?_) rfl (by kernel_rfl) (by kernel_rfl) (by kernel_rfl) (fun _ _ _ h => h) (Or.inl ⟨by rfl, ?_⟩) hH_ ?_; rotate_left; (focus (intro w_ hSw_; go_simp; try (with_reducible rfl))); simp only [List.getElem_toArray, List.getElem_cons_succ, List.getElem_cons_zero, Act.put, List.setIfInBounds_toArray, List.set_cons_zero, List.set_cons_succ])
      (refine wpAnyH_take (i := 37) rfl (by kernel_rfl) (by kernel_rfl) (by kernel_rfl) (fun _ _ _ h => h) (yieldsIf_load_cell (by rfl) 31 (.tmp 83) rfl (w.heap.size) (0) rfl (.slice (some ⟨g1, 0, none⟩) j c1) (run_isAgg_plain Try.underlying31 rfl) (fun W h => (cell_of (h.blk At.here) 0).trans rfl)) hH_ ?_; simp only [List.getElem_toArray, List.getElem_cons_succ, List.getElem_cons_zero, Act.put, List.setIfInBounds_toArray, List.set_cons_zero, List.set_cons_succ])
      (refine wpAnyH_take (i := 38) (v := ?_) rfl (by kernel_rfl) (by kernel_rfl) (by kernel_rfl) (fun _ _ _ h => h) (Or.inl ⟨by rfl, ?_⟩) hH_ ?_; rotate_left; (focus (intro w_ hSw_; go_simp; try (with_reducible rfl))); simp only [List.getElem_toArray, List.getElem_cons_succ, List.getElem_cons_zero, Act.put, List.setIfInBounds_toArray, List.set_cons_zero, List.set_cons_succ])
      (refine wpAnyH_take (i := 40) (v := .agg (u8A sz0)) rfl (by kernel_rfl) (by kernel_rfl) (by kernel_rfl) (fun _ _ _ h => h) (Or.inl ⟨by rfl, fun W _ => exec_build 34 #[] rfl #[] rfl (dk_zerob W)⟩) hH_ ?_; simp only [List.getElem_toArray, List.getElem_cons_succ, List.getElem_cons_zero, Act.put, List.setIfInBounds_toArray, List.set_cons_zero, List.set_cons_succ])
      (refine wpAnyH_ready (rs := [39]) (by kernel_rfl) (by simp) ?_; refine AllReadyH.cons rfl (fun K hK => ?_) AllReadyH.nil; go_simp; go_at_call 17; refine (dk_sure (d := d) (j : Int) HWF.out hH_ (At.there At.here)).mono ?_; rintro e w' ⟨rfl, HS⟩; rw [HS2.out]; (try go_simp); refine hK.out _ _ (HS.find (At.there At.here)) (fun hH2_ => ?_); clear hK K hH_; have hH_ := hH2_; clear hH2_; try simp only [List.getElem_toArray, List.getElem_cons_succ, List.getElem_cons_zero, Act.put, List.setIfInBounds_toArray, List.set_cons_zero, List.set_cons_succ])
      (refine wpAnyH_take (i := 41) (v := ?_) rfl (by kernel_rfl) (by kernel_rfl) (by kernel_rfl) (fun _ _ _ h => h) (Or.inl ⟨by rfl, ?_⟩) hH_ ?_; rotate_left; (focus (intro w_ hSw_; go_simp; try (with_reducible rfl))); simp only [List.getElem_toArray, List.getElem_cons_succ, List.getElem_cons_zero, Act.put, List.setIfInBounds_toArray, List.set_cons_zero, List.set_cons_succ])
      (refine wpAnyH_take (i := 42) (v := ?_) rfl (by kernel_rfl) (by kernel_rfl) (by kernel_rfl) (fun _ _ _ h => h) (Or.inl ⟨by rfl, ?_⟩) hH_ ?_; rotate_left; (focus (intro w_ hSw_; go_simp; try (with_reducible rfl))); simp only [List.getElem_toArray, List.getElem_cons_succ, List.getElem_cons_zero, Act.put, List.setIfInBounds_toArray, List.set_cons_zero, List.set_cons_succ])
      (refine wpAnyH_take (i := 43) (v := ?_) rfl (by kernel_rfl) (by kernel_rfl) (by kernel_rfl) (fun _ _ _ h => h) (Or.inl ⟨by rfl, ?_⟩) hH_ ?_; rotate_left; (focus (intro w_ hSw_; go_simp; try (with_reducible rfl))); simp only [List.getElem_toArray, List.getElem_cons_succ, List.getElem_cons_zero, Act.put, List.setIfInBounds_toArray, List.set_cons_zero, List.set_cons_succ])
      refine wpAnyH_done (by kernel_rfl) ?_ _
      go_wp2
      go_ret
      exact ⟨by first | rfl | trivial, hH_.drop At.here⟩

end Go.Proofs.Ytjoledofiindcaa.Hp
