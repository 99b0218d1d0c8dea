/- Contracts of functions of the given program, and what they lean on: written by this session's own program, out of hand texts laid into the kit's printer. -/
import Derived.Test.YtjoledofiindcaaHp0
import Derived.Test.YtjoledofiindcaaHg1
import Derived.Test.YtjoledofiindcaaHg2
namespace Go.Proofs.Ytjoledofiindcaa.Hp
open Go.RowKit Go.Proofs.YtjoledofiindcaaW.PrintWords Go.Proofs.YtjoledofiindcaaW.PrintLast Go.Proofs.YtjoledofiindcaaW.PrintMore
attribute [local go_sem] max2_int min2_int max_two min_two max_three min_three max_four min_four   -- for this text's walks alone
set_option linter.unusedVariables false
set_option linter.unusedSimpArgs false

/-! ### laminalaw02_DiskNone: function 8 -/
set_option maxRecDepth 100000 in
set_option maxHeartbeats 8000000 in
theorem laminalaw02_DiskNone.law (a0 : Int) (w : World) (_hw0 : (Lit.int .i64 a0).wf = true) :
    Calls Try.prog 8 #[.int .i64 a0] w fun e w' => e = .returned (.bool true) ∧ Below w.heap.size w w' := by
  have hz := dk_zero
  have h26 := Try.underlying26
  have h28 := Try.underlying28
  have h56 := Try.underlying56
  have heq : ∀ W, (Op.equalIn 10000 34 (.agg (u8A sz0)) (.agg (u8A sz0))).run Try.prog W = .ok true W := fun W => by have := dk_eql sz0 sz0 sz0_len sz0_len W; rwa [decide_eq_true rfl] at this
  have H0 := Cx.start w
  have F : True := trivial
  go_enter Try.func8, Try.ntmps8
  go_wp2_with fail
  refine (laminalaw02_alive.calls w).mono ?_
  rintro e w1 ⟨rfl, hb⟩
  have H1 := H0.below hb
  clear H0 hb
  go_wp2_with fail
  ((first | apply Cx.genCall | apply Cx.genCode | apply Cx.genList); (focus ((repeat (with_reducible (first | exact (H1).toS | exact At.here | apply At.there | apply CxS.drewN | apply CxS.drew | apply CxS.alloc | apply CxS.set | apply CxS.setRow))))); clear H1; intro w2 H2)
  refine (dkn_crash _ _ _ _).mono ?_
  rintro e w3 ⟨rfl, hb⟩
  have H3 := H2.nil.below hb
  clear H2 hb
  go_wp2_with fail
  refine (dkn_read a0 _).mono ?_
  rintro e w4 ⟨rfl, hb⟩
  have H4 := H3.below hb
  clear H3 hb
  rw [errW_some]
  go_wp2_with ((((with_reducible refine gate_store (t := 34) (x := .tmp 4) (y := .tmp 17) rfl ?_); (apply Cx.atList); (focus ((repeat (with_reducible (first | exact (H4).toS | exact At.here | apply At.there | apply CxS.drewN | apply CxS.drew | apply CxS.alloc | apply CxS.set | apply CxS.setRow))))); intro HT_; refine wpList_store_row rfl 34 (.tmp 4) (.tmp 17) rfl (w4.heap.size) (u8A sz0) rfl rfl _ _ (HT_.blk (by repeat (with_reducible (first | exact At.here | apply At.there)))) (dk_isz sz0_len) (rfl) (u8A_one _) ?_; clear HT_); clear F; (apply Cx.genList); (focus ((repeat (with_reducible (first | exact (H4).toS | exact At.here | apply At.there | apply CxS.drewN | apply CxS.drew | apply CxS.alloc | apply CxS.set | apply CxS.setRow))))); clear H4; intro w5 H5; have F := (H5).facts; simp only [factsOf, Asr.facts, blkFacts, cellsAre, List.toList_toArray, forall_const, Nat.zero_add, Nat.reduceAdd, and_true, true_and] at F))
  refine (dkn_write a0 sz0 _).mono ?_
  rintro e w6 ⟨rfl, hb⟩
  have H6 := H5.nil.below hb
  clear H5 hb F
  rw [errW_some]
  go_wp2_with (first
    | (go_at_call 14; (with_reducible refine (dkn_flush _).mono ?_); rintro e w' ⟨rfl, rfl⟩; rw [errW_some])
    | (go_at_call 20; (with_reducible refine (dkn_arm a0 _).mono ?_); rintro e w' ⟨rfl, rfl⟩; rw [errW_some]))
  obtain ⟨g, hg⟩ : ∃ g, g = w'.heap.size := ⟨_, rfl⟩
  have H7 := (H6.toS.alloc (.cells #[.iface 56 (.int .i64 3), .iface 56 (.int .i64 3), .iface 56 (.int .i64 3), .iface 56 (.int .i64 3)] 28 (0, 0))).cx
  rw [← hg] at H7 ⊢
  clear H6 hg
  go_loopw [31] (fun v31 wr => ∃ k : Nat, k ≤ 4 ∧ v31 = .int .i64 k ∧ Cx w.heap.size w wr [.blk g (.cells #[.iface 56 (.int .i64 3), .iface 56 (.int .i64 3), .iface 56 (.int .i64 3), .iface 56 (.int .i64 3)] 28 (0, 0))]) (fun v31 _ => 4 - (intOf v31).toNat)
  case atStart => exact ⟨0, by omega, rfl, H7⟩
  case round =>
    clear H7
    obtain ⟨k, hk, rfl, H8⟩ := hrel
    have HB := Aside0.mk (H8.blk (b := g) (o := .cells #[.iface 56 (.int .i64 3), .iface 56 (.int .i64 3), .iface 56 (.int .i64 3), .iface 56 (.int .i64 3)] 28 (0, 0)) (by repeat (with_reducible (first | exact At.here | apply At.there))))
    by_cases hlt : k < 4
    · have ck : wr.cell? ⟨g, k, none⟩ = some (.iface 56 (.int .i64 3)) := by
        rw [cell_of HB.out]
        rcases k with _ | _ | _ | _ | k <;> first | rfl | omega
      have h0 : (0 : Int) ≤ (k : Int) := by omega
      have h1 : (k : Int) < 4 := by omega
      go_wp2_with fail
      refine (laminanum_Is.calls (some 3) 3 true _ (by rfl)).mono ?_
      rintro e w9 ⟨rfl, hd⟩
      obtain ⟨nn, rfl⟩ := hd
      have H9 := (H8.toS.drewN nn).cx
      go_wp2
      refine ⟨⟨k + 1, by omega, by go_num, H9⟩, by simp [intOf]; omega⟩
    · obtain rfl : k = 4 := by omega
      have H9 := H8.nil
      clear H8
      go_wp2_with fail
      refine (dkn_sure a0 _).mono ?_
      rintro e w9 ⟨rfl, hb⟩
      have H10 := H9.below hb
      clear H9 hb
      go_wp2_with (first
        | (go_at_call 25; (with_reducible refine (dkn_len _).mono ?_); rintro e w' ⟨rfl, rfl⟩)
        | (go_at_call 18; (with_reducible refine (dkn_waiting _).mono ?_); rintro e w' ⟨rfl, rfl⟩)
        | (go_at_call 21; (with_reducible refine (dkn_steps _).mono ?_); rintro e w' ⟨rfl, rfl⟩)
        | (go_at_call 19; (with_reducible refine (dkn_down _).mono ?_); rintro e w' ⟨rfl, rfl⟩)
        | (go_at_call 27; (with_reducible refine (dkn_copy _).mono ?_); rintro e w' ⟨rfl, rfl⟩))
      go_ret
      exact ⟨by first | rfl | trivial, H10.bel⟩

end Go.Proofs.Ytjoledofiindcaa.Hp
