/- Contracts of functions of the given program, and what they lean on: written by this session's own program, out of hand texts laid into the kit's printer. -/
import Derived.Test.YtgnpmephgdghhaaHp0
import Derived.Test.YtgnpmephgdghhaaHg1
import Derived.Test.YtgnpmephgdghhaaHg2
import Derived.Test.YtgnpmephgdghhaaHg3
namespace Go.Proofs.Ytgnpmephgdghhaa.Hp
open Go.RowKit Go.Proofs.YtgnpmephgdghhaaW.PrintWords Go.Proofs.YtgnpmephgdghhaaW.PrintLast Go.Proofs.YtgnpmephgdghhaaW.PrintMore
attribute [local go_sem] max2_int min2_int max_two min_two max_three min_three max_four min_four   -- for this text's walks alone
set_option linter.unusedVariables false
set_option linter.unusedSimpArgs false

/-! ### laminalaw04_BoxTurns: function 5 -/
theorem u8A_set (s : List Int) (i : Nat) (y : Int) : (u8A s).setIfInBounds i (.int .u8 y) = u8A (s.set i y) := by simp [u8A]
theorem xor_ne (x b : Int) (hx : 0 ≤ x ∧ x < 256) (hb : 0 ≤ b ∧ b < 256) (h : b ≠ 0) : bits .xor .u8 x b ≠ x := by
  intro e
  have h1 := u8_xor_bv x b hx.1 hx.2 hb.1 hb.2
  rw [e] at h1
  have h2 : BitVec.ofInt 32 x ^^^ BitVec.ofInt 32 b = BitVec.ofInt 32 x ^^^ 0#32 := by rw [← h1, BitVec.xor_zero]
  have h3 := xor_cancel _ _ _ h2
  have h4 : (((BitVec.ofInt 32 b).toNat : Nat) : Int) = 0 := by rw [h3]; rfl
  rw [bv_toNat b (by omega) (by omega)] at h4
  exact h h4
set_option maxRecDepth 100000 in
set_option maxHeartbeats 4000000 in
theorem laminalaw04_BoxTurns.law (cs0 : Array Value) (x0 : S24) (a1 a2 : Int) (w : World) (hk0 : k24.K w x0 cs0.toList)
    (_hg0 : (Lit.int .i64 x0.f0).wf = true ∧ (Lit.int .i64 x0.f1).wf = true ∧ (Lit.int .i64 x0.f2).wf = true ∧ (x0.f3.length * 1 ≤ 140737488351232 ∧ ∀ m ∈ x0.f3, (Lit.int .u8 m).wf = true)) (hw1 : (Lit.int .i64 a1).wf = true) (hw2 : (Lit.int .u8 a2).wf = true) :
    Calls Try.prog 5 #[.agg cs0, .int .i64 a1, .int .u8 a2] w fun e w' => e = .returned (.bool true) ∧ Below w.heap.size w w' := by
  obtain ⟨A3, c3, hcs, l3, g3⟩ := k24_open hk0
  obtain rfl : cs0 = #[.int .i64 x0.f0, .int .i64 x0.f1, .int .i64 x0.f2, .slice A3 x0.f3.length c3] := by
    apply Array.toList_inj.1
    rw [hcs]
  obtain ⟨k, g, n, d⟩ := x0
  simp only at l3 g3 _hg0 ⊢
  have hb1 := wf_i64 hw1
  have hb2 := wf_u8 hw2
  have HD := Aside0.mk (wfs_u8 _hg0.2.2.2.2)
  have HC := Aside0.mk g3
  have HM := Aside0.mk (show d.length ≤ c3 from l3)
  clear hcs hk0 _hg0 hw1 hw2 g3 l3
  have H0 := Cx.start w
  have hz := zero_sector
  have hal := @alloc_cell
  obtain ⟨m, hm⟩ : ∃ m, m = d.length := ⟨_, rfl⟩
  rw [← hm] at HC HM ⊢
  have HDL := Aside0.mk hm
  clear hm
  obtain ⟨⟨S, er⟩, hSO⟩ : ∃ q, q = sealO k g n d := ⟨_, rfl⟩
  have HSO := Aside0.mk hSO
  have hSL := sealO_len k g n d
  rw [← hSO] at hSL
  have HSL := Aside0.mk (show S.length = 128 from hSL)
  clear hSO hSL
  go_enter Try.func5, Try.ntmps5
  go_wp2_with fail
  (apply Cx.atCall; (focus ((repeat (with_reducible (first | exact (H0).toS | exact At.here | apply At.there | apply CxS.drewN | apply CxS.drew | apply CxS.alloc | apply CxS.set | apply CxS.setRow))))); intro HT)
  refine (laminalaw04_alive.calls _).mono ?_
  rintro e w1 ⟨rfl, hj⟩
  have H1 := (HT).join hj; simp only [List.cons_append, List.nil_append] at H1
  clear HT hj H0
  have F := (H1).facts; simp only [factsOf, Asr.facts, blkFacts, cellsAre, List.toList_toArray, forall_const, Nat.zero_add, Nat.reduceAdd, and_true, true_and] at F
  go_wp2_with fail
  have hgt := guard_sector
  (with_reducible refine (seal_n k g n A3 m c3 d _ (Kd.C_below HC.out H1.bel) HD.out HM.out S er HSO.out).mono ?_)
  rintro e w2 ⟨rfl, hj⟩
  have H2 := (H1).join hj; simp only [List.cons_append, List.nil_append] at H2
  clear H1 hj
  have F := (H2).facts; simp only [factsOf, Asr.facts, blkFacts, cellsAre, List.toList_toArray, forall_const, Nat.zero_add, Nat.reduceAdd, and_true, true_and] at F
  rcases er with _ | er
  · rw [errW_none]
    obtain ⟨hin, hl, hS⟩ := seal_none HSO.out.symm
    have HIN := Aside0.mk hin
    have HL := Aside0.mk hl
    have HS := Aside0.mk hS
    clear hin hl hS
    by_cases h0 : a2 = 0
    · subst h0
      go_wp2_with (first
        | (((with_reducible refine gate_store (t := 28) (x := .tmp 7) (y := .tmp 24) rfl ?_); (apply Cx.atList); (focus ((repeat (with_reducible (first | exact (H2).toS | exact At.here | apply At.there | apply CxS.drewN | apply CxS.drew | apply CxS.alloc | apply CxS.set | apply CxS.setRow))))); intro HT_; refine wpList_store_row rfl 28 (.tmp 7) (.tmp 24) rfl (w2.heap.size) (u8A S) rfl rfl _ _ (HT_.blk (by repeat (with_reducible (first | exact At.here | apply At.there)))) (by rw [u8A_size, HSL.out]; exact info_sector) (by rw [z128_sz, u8A_size, HSL.out]) (u8A_one _) ?_; clear HT_); clear F; (apply Cx.genList); (focus ((repeat (with_reducible (first | exact (H2).toS | exact At.here | apply At.there | apply CxS.drewN | apply CxS.drew | apply CxS.alloc | apply CxS.set | apply CxS.setRow))))); clear H2; intro w3 H3; have F := (H3).facts; simp only [factsOf, Asr.facts, blkFacts, cellsAre, List.toList_toArray, forall_const, Nat.zero_add, Nat.reduceAdd, and_true, true_and] at F))
      ((try simp only [Exit.inBlock, Exit.then]); (apply Cx.atPost); (focus ((repeat (with_reducible (first | exact (H3).toS | exact At.here | apply At.there | apply CxS.drewN | apply CxS.drew | apply CxS.alloc | apply CxS.set | apply CxS.setRow))))); intro HT)
      go_ret
      exact ⟨by first | rfl | simp, HT.bel⟩
    · have h1 : (a2 == 0) = false := beq_eq_false_iff_ne.2 h0
      have hix : ∃ i : Nat, i < 128 ∧ (IntKind.u64.wrap a1).tmod 128 = (i : Int) := ⟨((IntKind.u64.wrap a1).tmod 128).toNat, by
        have : 0 ≤ IntKind.u64.wrap a1 := by rw [IntKind.wrap_u64]; omega
        rw [Int.tmod_eq_emod_of_nonneg this]
        omega, by
        have : 0 ≤ IntKind.u64.wrap a1 := by rw [IntKind.wrap_u64]; omega
        rw [Int.tmod_eq_emod_of_nonneg this]
        omega⟩
      obtain ⟨i, hi, hie⟩ := hix
      have hSB := secL_bd k g n d (by have := (inR_bd HIN.out).1; omega) HD.out HL.out
      rw [← HS.out] at hSB
      have HSB := Aside0.mk hSB
      clear hSB
      have hx := rd_bds HSB.out i (by rw [HSL.out]; exact hi)
      obtain ⟨Y, hY⟩ : ∃ Y, Y = bits .xor .u8 (rd S i) a2 := ⟨_, rfl⟩
      have HYB := Aside0.mk (show 0 ≤ Y ∧ Y < 256 by rw [hY]; exact u8_xor_bd _ _ hx.1 hx.2 hb2.1 hb2.2)
      have HYN := Aside0.mk (show Y ≠ rd S i by rw [hY]; exact xor_ne _ _ hx hb2 h0)
      obtain ⟨T, hT⟩ : ∃ T, T = S.set i Y := ⟨_, rfl⟩
      have HTL := Aside0.mk (show T.length = 128 by rw [hT, List.length_set]; exact HSL.out)
      have HTB := Aside0.mk (show ∀ x ∈ T, 0 ≤ x ∧ x < 256 from fun x hx => by
        rw [hT] at hx
        rcases List.mem_or_eq_of_mem_set hx with h | h
        · exact HSB.out x h
        · subst h; exact HYB.out)
      have HTO := Aside0.mk (show openO T = none by rw [hT, HS.out]; exact open_turned HIN.out HL.out HD.out i hi Y HYB.out (by rw [← HS.out]; exact HYN.out))
      have HTI := Aside0.mk (show isO T k g n = none by unfold isO; rw [HTO.out])
      have hset : (u8A S).setIfInBounds i (.int .u8 Y) = u8A T := by rw [u8A_set, hT]
      have hYe := hY.symm
      clear hY hT hx
      go_wp2_with (first
        | ((((with_reducible refine gate_store (t := 28) (x := .tmp 7) (y := .tmp 24) rfl ?_); (apply Cx.atList); (focus ((repeat (with_reducible (first | exact (H2).toS | exact At.here | apply At.there | apply CxS.drewN | apply CxS.drew | apply CxS.alloc | apply CxS.set | apply CxS.setRow))))); intro HT_; refine wpList_store_row rfl 28 (.tmp 7) (.tmp 24) rfl (w2.heap.size) (u8A S) rfl rfl _ _ (HT_.blk (by repeat (with_reducible (first | exact At.here | apply At.there)))) (by rw [u8A_size, HSL.out]; exact info_sector) (by rw [z128_sz, u8A_size, HSL.out]) (u8A_one _) ?_; clear HT_); clear F; (apply Cx.genList); (focus ((repeat (with_reducible (first | exact (H2).toS | exact At.here | apply At.there | apply CxS.drewN | apply CxS.drew | apply CxS.alloc | apply CxS.set | apply CxS.setRow))))); clear H2; intro w3 H3; have F := (H3).facts; simp only [factsOf, Asr.facts, blkFacts, cellsAre, List.toList_toArray, forall_const, Nat.zero_add, Nat.reduceAdd, and_true, true_and] at F); have ci := (blk_cell (H3.blk (b := w2.heap.size) (by repeat (with_reducible (first | exact At.here | apply At.there)))) i).trans (u8A_at S i (by rw [HSL.out]; exact hi)); have fi := blk_frozen (H3.blk (b := w2.heap.size) (by repeat (with_reducible (first | exact At.here | apply At.there)))) i)
        | ((with_reducible refine gate_load (t := 28) (x := .tmp 7) rfl ?_); (apply Cx.genList); (focus ((repeat (with_reducible (first | exact (H3).toS | exact At.here | apply At.there | apply CxS.drewN | apply CxS.drew | apply CxS.alloc | apply CxS.set | apply CxS.setRow))))); clear H3 F ci fi; intro w4 H4; rw [hset] at H4; clear hset; have F := (H4).facts; simp only [factsOf, Asr.facts, blkFacts, cellsAre, List.toList_toArray, forall_const, Nat.zero_add, Nat.reduceAdd, and_true, true_and] at F; refine wpList_load_row rfl 28 (.tmp 7) rfl (w2.heap.size) rfl _ (u8A T) _ _ (H4.blk (by repeat (with_reducible (first | exact At.here | apply At.there)))) Try.underlying28 rfl (by rw [u8A_size, HTL.out]; exact info_sector) ?_))
      refine (box_Open.calls T _ HTL.out HTB.out).mono ?_
      rintro e w5 h
      rcases h with ⟨hO, rfl, hj⟩ | ⟨k', g', n', d', v', hO, rfl, hj⟩
      case inr => rw [HTO.out] at hO; cases hO
      have H5 := (H4).join hj; simp only [List.cons_append, List.nil_append] at H5
      clear hO hj H4 F
      rw [errW_some]
      have F := (H5).facts; simp only [factsOf, Asr.facts, blkFacts, cellsAre, List.toList_toArray, forall_const, Nat.zero_add, Nat.reduceAdd, and_true, true_and] at F
      go_wp2_with (first
        | ((with_reducible refine gate_load (t := 28) (x := .tmp 7) rfl ?_); (apply Cx.atList); (focus ((repeat (with_reducible (first | exact (H5).toS | exact At.here | apply At.there | apply CxS.drewN | apply CxS.drew | apply CxS.alloc | apply CxS.set | apply CxS.setRow))))); intro HT_; refine wpList_load_row rfl 28 (.tmp 7) rfl (w2.heap.size) rfl _ (u8A T) _ _ (HT_.blk (by repeat (with_reducible (first | exact At.here | apply At.there)))) Try.underlying28 rfl (by rw [u8A_size, HTL.out]; exact info_sector) ?_; clear HT_))
      refine (box_Is.calls T k g n _ HTL.out HTB.out).mono ?_
      rintro e w6 h
      rcases h with ⟨hO, rfl, hj⟩ | ⟨d', v', hO, rfl, hj⟩
      case inr => rw [HTI.out] at hO; cases hO
      have H6 := (H5).join hj; simp only [List.cons_append, List.nil_append] at H6
      clear hO hj H5 F
      go_wp2_with fail
      have his := laminanum_Is.calls (some 11) 11 true w6 rfl
      rw [errW_some] at his
      refine his.mono ?_
      rintro e w7 ⟨rfl, hdr⟩
      have H7 := H6.below hdr.below
      clear his hdr H6
      go_wp2
      go_ret
      exact ⟨by first | rfl | simp, H7.bel⟩
  · obtain rfl := seal_bad HSO.out.symm
    have heq := fun W => eql_sector z128 z128 HSL.out HSL.out W
    rw [decide_eq_true rfl] at heq
    rw [errW_some]
    go_wp2_with (first
      | (((with_reducible refine gate_store (t := 28) (x := .tmp 7) (y := .tmp 24) rfl ?_); (apply Cx.atList); (focus ((repeat (with_reducible (first | exact (H2).toS | exact At.here | apply At.there | apply CxS.drewN | apply CxS.drew | apply CxS.alloc | apply CxS.set | apply CxS.setRow))))); intro HT_; refine wpList_store_row rfl 28 (.tmp 7) (.tmp 24) rfl (w2.heap.size) (u8A z128) rfl rfl _ _ (HT_.blk (by repeat (with_reducible (first | exact At.here | apply At.there)))) (info_z) (rfl) (u8A_one _) ?_; clear HT_); clear F; (apply Cx.genList); (focus ((repeat (with_reducible (first | exact (H2).toS | exact At.here | apply At.there | apply CxS.drewN | apply CxS.drew | apply CxS.alloc | apply CxS.set | apply CxS.setRow))))); clear H2; intro w3 H3; have F := (H3).facts; simp only [factsOf, Asr.facts, blkFacts, cellsAre, List.toList_toArray, forall_const, Nat.zero_add, Nat.reduceAdd, and_true, true_and] at F)
      | ((with_reducible refine gate_load (t := 28) (x := .tmp 7) rfl ?_); (apply Cx.atList); (focus ((repeat (with_reducible (first | exact (H3).toS | exact At.here | apply At.there | apply CxS.drewN | apply CxS.drew | apply CxS.alloc | apply CxS.set | apply CxS.setRow))))); intro HT_; refine wpList_load_row_g rfl 28 (.tmp 7) rfl (w2.heap.size) rfl _ (u8A z128) _ _ (HT_.blk (by repeat (with_reducible (first | exact At.here | apply At.there)))) Try.underlying28 rfl (info_z) ?_; clear HT_))
    ((try simp only [Exit.inBlock, Exit.then]); (apply Cx.atPost); (focus ((repeat (with_reducible (first | exact (H3).toS | exact At.here | apply At.there | apply CxS.drewN | apply CxS.drew | apply CxS.alloc | apply CxS.set | apply CxS.setRow))))); intro HT)
    go_ret
    exact ⟨by first | rfl | simp, HT.bel⟩

end Go.Proofs.Ytgnpmephgdghhaa.Hp
