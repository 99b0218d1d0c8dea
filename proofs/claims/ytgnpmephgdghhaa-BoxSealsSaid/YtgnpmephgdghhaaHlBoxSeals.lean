/- Contracts of functions of the given program, and what they lean on: written by this session's own program, out of hand texts laid into the kit's printer. -/
import Derived.Test.YtgnpmephgdghhaaHp0
import Derived.Test.YtgnpmephgdghhaaHg1
import Derived.Test.YtgnpmephgdghhaaHg2
import Derived.Test.YtgnpmephgdghhaaHg3
namespace Go.Proofs.Ytgnpmephgdghhaa.Hp
open Go.RowKit Go.Proofs.YtgnpmephgdghhaaW.PrintWords Go.Proofs.YtgnpmephgdghhaaW.PrintLast Go.Proofs.YtgnpmephgdghhaaW.PrintMore
attribute [local go_sem] max2_int min2_int max_two min_two max_three min_three max_four min_four   -- for this text's walks alone
set_option linter.unusedVariables false
set_option linter.unusedSimpArgs false

/-! ### laminalaw04_BoxSeals: function 3 -/
theorem copy_n (A : Option Addr) (m c : Nat) (d : List Int) (w : World) (h : Kd.C (Kd.int .u8) w A m d) (hn : m ≤ 900000) :
    Calls Try.prog 9 #[.slice A m c] w fun e w' => ∃ g cap, e = .returned (.slice (some ⟨g, 0, none⟩) m cap) ∧ Cx w.heap.size w w' [.own bytesR (.slice (some ⟨g, 0, none⟩) (m + 2) cap) (d ++ [165, 90])] := by
  obtain rfl := h.1
  refine (laminanum_Copy.calls A c d w h hn).mono ?_
  rintro e w' ⟨g, cap, rfl, _, hr, hb⟩
  refine ⟨g, cap, rfl, ?_⟩
  have := (Cx.start w).push hr hb
  rw [show (d ++ [165, 90] : List Int).length = d.length + 2 by simp] at this
  exact this
theorem Cx.marks {B : Nat} {w0 w : World} {m r : List Asr} {g n cap : Nat} {d : List Int} (H : Cx B w0 w m) (k : At m (.own bytesR (.slice (some ⟨g, 0, none⟩) (n + 2) cap) (d ++ [165, 90])) r) (hn : n = d.length) :
    Kd.C (Kd.int .u8) w (some ⟨g, 0, none⟩) n d ∧ n ≤ cap := by
  subst hn
  obtain ⟨S, hr, hs⟩ := H.has k
  have hr' : Kd.R (Kd.int .u8) 5 w 0 S (.slice (some ⟨g, 0, none⟩) (d.length + 2) cap) (d ++ [165, 90]) := hr
  rw [show d.length + 2 = (d ++ [165, 90]).length by simp] at hr'
  have := Kp_C hr'
  exact ⟨this.1, by omega⟩
theorem Cx.kept {B : Nat} {w0 w : World} {m r : List Asr} {g n cap n1 c1 : Nat} {A1 : Option Addr} {d : List Int} (H : Cx B w0 w m) (k : At m (.own bytesR (.slice (some ⟨g, 0, none⟩) (n + 2) cap) (d ++ [165, 90])) r) (h1 : Kd.C (Kd.int .u8) w A1 n1 d) (hn : n = d.length) (hl : n ≤ 900000) :
    Calls Try.prog 13 #[.slice (some ⟨g, 0, none⟩) n cap, .slice A1 n1 c1] w fun e w' => e = .returned (.bool true) ∧ Drawn0 w w' := by
  subst hn
  obtain rfl := h1.1
  obtain ⟨S, hr, hs⟩ := H.has k
  have hr' : Kd.R (Kd.int .u8) 5 w 0 S (.slice (some ⟨g, 0, none⟩) (d.length + 2) cap) (d ++ [165, 90]) := hr
  rw [show d.length + 2 = (d ++ [165, 90]).length by simp] at hr'
  exact laminanum_Kept.calls g cap 0 S A1 c1 d w hr' h1 hl
theorem num_n (er : Option Int) (h : er = none ∨ er = some 1 ∨ er = some 2) (w : World) : Calls Try.prog 12 #[errW er] w fun e w' => e = .returned (.int .i64 (errN er)) ∧ Drawn0 w w' := by
  rcases h with rfl | rfl | rfl <;> exact laminanum_Num.calls _ _ w (by simp [laminanum_Num.f, errN])
set_option maxRecDepth 100000 in
set_option maxHeartbeats 8000000 in
theorem laminalaw04_BoxSeals.law (cs0 : Array Value) (x0 : S24) (w : World) (hk0 : k24.K w x0 cs0.toList)
    (_hg0 : (Lit.int .i64 x0.f0).wf = true ∧ (Lit.int .i64 x0.f1).wf = true ∧ (Lit.int .i64 x0.f2).wf = true ∧ (x0.f3.length * 1 ≤ 140737488351232 ∧ ∀ m ∈ x0.f3, (Lit.int .u8 m).wf = true)) :
    Calls Try.prog 3 #[.agg cs0] w fun e w' => e = .returned (.bool true) ∧ Below w.heap.size w w' := by
  obtain ⟨A0, c0, hcs0, l0, g0⟩ := k24_open hk0
  obtain rfl : cs0 = #[.int .i64 x0.f0, .int .i64 x0.f1, .int .i64 x0.f2, .slice A0 x0.f3.length c0] := by
    apply Array.toList_inj.1
    rw [hcs0]
  obtain ⟨k, g, n, d⟩ := x0
  simp only at l0 g0 _hg0 ⊢
  have HD := Aside0.mk (wfs_u8 _hg0.2.2.2.2)
  have HC := Aside0.mk g0
  have HM := Aside0.mk (show d.length ≤ c0 from l0)
  have hmx := g0.2.1
  clear hcs0 hk0 _hg0 g0 l0
  have H0 := Cx.start w
  have hz := zero_sector
  have hal := @alloc_cell
  have hgt := guard_sector
  obtain ⟨m, hm⟩ : ∃ m, m = d.length := ⟨_, rfl⟩
  rw [← hm] at HC HM hmx ⊢
  have HDM := Aside0.mk hm
  clear hm
  obtain ⟨⟨S, er⟩, hSO⟩ : ∃ q, q = sealO k g n d := ⟨_, rfl⟩
  have HSO := Aside0.mk hSO
  have hSL := sealO_len k g n d
  rw [← hSO] at hSL
  have HSL := Aside0.mk (show S.length = 128 from hSL)
  have HER := Aside0.mk (show er = none ∨ er = some 1 ∨ er = some 2 by have := sealO_er k g n d; rw [← hSO] at this; exact this)
  clear hSO hSL
  go_enter Try.func3, Try.ntmps3
  go_wp2_with fail
  (apply Cx.atCall; (focus ((repeat (with_reducible (first | exact (H0).toS | exact At.here | apply At.there | apply CxS.drewN | apply CxS.drew | apply CxS.alloc | apply CxS.set | apply CxS.setRow))))); intro HT)
  refine (laminalaw04_alive.calls _).mono ?_
  rintro e w1 ⟨rfl, hj⟩
  have H1 := (HT).join hj; simp only [List.cons_append, List.nil_append] at H1
  clear HT hj H0
  have F := (H1).facts; simp only [factsOf, Asr.facts, blkFacts, cellsAre, List.toList_toArray, forall_const, Nat.zero_add, Nat.reduceAdd, and_true, true_and] at F
  by_cases hb : 5000 < m
  · have e1 : decide ((5000 : Int) < (m : Int)) = true := decide_eq_true (by omega)
    go_wp2
    go_ret
    exact ⟨rfl, H1.bel⟩
  have e1 : decide ((5000 : Int) < (m : Int)) = false := decide_eq_false (by omega)
  go_wp2_with fail
  (with_reducible refine (copy_n A0 m c0 d _ (Kd.C_below HC.out H1.bel) (by omega)).mono ?_)
  rintro e w2 ⟨cg, cap, rfl, hj⟩
  have H2 := (H1).join hj; simp only [List.cons_append, List.nil_append] at H2
  clear H1 hj F
  have HK := Aside0.mk (H2.marks (by repeat (with_reducible (first | exact At.here | apply At.there))) HDM.out)
  have F := (H2).facts; simp only [factsOf, Asr.facts, blkFacts, cellsAre, List.toList_toArray, forall_const, Nat.zero_add, Nat.reduceAdd, and_true, true_and] at F
  go_wp2_with fail
  (with_reducible refine (seal_n k g n (some ⟨cg, 0, none⟩) m cap d _ HK.out.1 HD.out HK.out.2 S er HSO.out).mono ?_)
  rintro e w3 ⟨rfl, hj⟩
  have H3 := (H2).join hj; simp only [List.cons_append, List.nil_append] at H3
  clear H2 hj F
  have F := (H3).facts; simp only [factsOf, Asr.facts, blkFacts, cellsAre, List.toList_toArray, forall_const, Nat.zero_add, Nat.reduceAdd, and_true, true_and] at F
  go_wp2_with (first
    | (((with_reducible refine gate_store (t := 28) (x := .tmp 4) (y := .tmp 30) rfl ?_); (apply Cx.atList); (focus ((repeat (with_reducible (first | exact (H3).toS | exact At.here | apply At.there | apply CxS.drewN | apply CxS.drew | apply CxS.alloc | apply CxS.set | apply CxS.setRow))))); intro HT_; refine wpList_store_row rfl 28 (.tmp 4) (.tmp 30) rfl (w3.heap.size) (u8A S) rfl rfl _ _ (HT_.blk (by repeat (with_reducible (first | exact At.here | apply At.there)))) (by rw [u8A_size, HSL.out]; exact info_sector) (by rw [z128_sz, u8A_size, HSL.out]) (u8A_one _) ?_; clear HT_); clear F; (apply Cx.genList); (focus ((repeat (with_reducible (first | exact (H3).toS | exact At.here | apply At.there | apply CxS.drewN | apply CxS.drew | apply CxS.alloc | apply CxS.set | apply CxS.setRow))))); clear H3; intro w4 H4; have F := (H4).facts; simp only [factsOf, Asr.facts, blkFacts, cellsAre, List.toList_toArray, forall_const, Nat.zero_add, Nat.reduceAdd, and_true, true_and] at F))
  (with_reducible refine (laminaref04_Seal.calls k g n A0 m c0 d _ (Kd.C_below HC.out H4.bel) HD.out HM.out S er HSO.out).mono ?_)
  rintro e w5 ⟨rfl, hj⟩
  have H5 := (H4).join hj; simp only [List.cons_append, List.nil_append] at H5
  clear H4 hj F
  have F := (H5).facts; simp only [factsOf, Asr.facts, blkFacts, cellsAre, List.toList_toArray, forall_const, Nat.zero_add, Nat.reduceAdd, and_true, true_and] at F
  have heq := fun W => eql_sector S S HSL.out HSL.out W
  rw [decide_eq_true rfl] at heq
  go_wp2_with (first
    | (((with_reducible refine gate_store (t := 28) (x := .tmp 6) (y := .tmp 35) rfl ?_); (apply Cx.atList); (focus ((repeat (with_reducible (first | exact (H5).toS | exact At.here | apply At.there | apply CxS.drewN | apply CxS.drew | apply CxS.alloc | apply CxS.set | apply CxS.setRow))))); intro HT_; refine wpList_store_row rfl 28 (.tmp 6) (.tmp 35) rfl (w5.heap.size) (u8A S) rfl rfl _ _ (HT_.blk (by repeat (with_reducible (first | exact At.here | apply At.there)))) (by rw [u8A_size, HSL.out]; exact info_sector) (by rw [z128_sz, u8A_size, HSL.out]) (u8A_one _) ?_; clear HT_); clear F; (apply Cx.genList); (focus ((repeat (with_reducible (first | exact (H5).toS | exact At.here | apply At.there | apply CxS.drewN | apply CxS.drew | apply CxS.alloc | apply CxS.set | apply CxS.setRow))))); clear H5; intro w6 H6; have F := (H6).facts; simp only [factsOf, Asr.facts, blkFacts, cellsAre, List.toList_toArray, forall_const, Nat.zero_add, Nat.reduceAdd, and_true, true_and] at F)
    | ((with_reducible refine gate_load (t := 28) (x := .tmp 4) rfl ?_); (apply Cx.atList); (focus ((repeat (with_reducible (first | exact (H6).toS | exact At.here | apply At.there | apply CxS.drewN | apply CxS.drew | apply CxS.alloc | apply CxS.set | apply CxS.setRow))))); intro HT_; refine wpList_load_row rfl 28 (.tmp 4) rfl (w3.heap.size) rfl _ (u8A S) _ _ (HT_.blk (by repeat (with_reducible (first | exact At.here | apply At.there)))) Try.underlying28 rfl (by rw [u8A_size, HSL.out]; exact info_sector) ?_; clear HT_)
    | ((with_reducible refine gate_load (t := 28) (x := .tmp 6) rfl ?_); (apply Cx.atList); (focus ((repeat (with_reducible (first | exact (H6).toS | exact At.here | apply At.there | apply CxS.drewN | apply CxS.drew | apply CxS.alloc | apply CxS.set | apply CxS.setRow))))); intro HT_; refine wpList_load_row rfl 28 (.tmp 6) rfl (w5.heap.size) rfl _ (u8A S) _ _ (HT_.blk (by repeat (with_reducible (first | exact At.here | apply At.there)))) Try.underlying28 rfl (by rw [u8A_size, HSL.out]; exact info_sector) ?_; clear HT_))
  (with_reducible refine (num_n er HER.out _).mono ?_)
  rintro e w7 ⟨rfl, hdr⟩
  have H7 := H6.below hdr.below
  clear hdr H6 F
  have F := (H7).facts; simp only [factsOf, Asr.facts, blkFacts, cellsAre, List.toList_toArray, forall_const, Nat.zero_add, Nat.reduceAdd, and_true, true_and] at F
  go_wp2_with fail
  (with_reducible refine (H7.kept (by repeat (with_reducible (first | exact At.here | apply At.there))) (Kd.C_below HC.out H7.bel) HDM.out (by omega)).mono ?_)
  rintro e w8 ⟨rfl, hdr⟩
  have H8 := H7.below hdr.below
  clear hdr H7 F
  have F := (H8).facts; simp only [factsOf, Asr.facts, blkFacts, cellsAre, List.toList_toArray, forall_const, Nat.zero_add, Nat.reduceAdd, and_true, true_and] at F
  rcases er with _ | er
  case some =>
    have h0 : (errN (some er) == 0) = false := by rcases HER.out with h | h | h <;> cases h <;> rfl
    go_wp2
    go_ret
    exact ⟨rfl, H8.bel⟩
  obtain ⟨hin, hl, hS⟩ := seal_none HSO.out.symm
  have HOP := Aside0.mk (show openO S = some (k, g, n, d) by rw [hS]; exact open_sec k g n d hin hl)
  have HIP := Aside0.mk (show isO S k g n = some d by rw [hS]; exact is_sec k g n d hin hl)
  have HSB := Aside0.mk (show ∀ x ∈ S, 0 ≤ x ∧ x < 256 by rw [hS]; exact secL_bd k g n d (by have := (inR_bd hin).1; omega) HD.out hl)
  have HLL := Aside0.mk (show d.length ≤ 100000 by omega)
  clear hin hl hS
  have h0 : errN none = 0 := rfl
  go_wp2_with (first
    | ((with_reducible refine gate_load (t := 28) (x := .tmp 4) rfl ?_); (apply Cx.atList); (focus ((repeat (with_reducible (first | exact (H8).toS | exact At.here | apply At.there | apply CxS.drewN | apply CxS.drew | apply CxS.alloc | apply CxS.set | apply CxS.setRow))))); intro HT_; refine wpList_load_row rfl 28 (.tmp 4) rfl (w3.heap.size) rfl _ (u8A S) _ _ (HT_.blk (by repeat (with_reducible (first | exact At.here | apply At.there)))) Try.underlying28 rfl (by rw [u8A_size, HSL.out]; exact info_sector) ?_; clear HT_))
  refine (box_Open.calls S _ HSL.out HSB.out).mono ?_
  rintro e w9 h
  rcases h with ⟨hO, rfl, hj⟩ | ⟨k', g', n', d', v', hO, rfl, hj⟩
  case inl => rw [HOP.out] at hO; cases hO
  have H9 := (H8).join hj; simp only [List.cons_append, List.nil_append] at H9
  rw [HOP.out] at hO
  injection hO with hO
  injection hO with a1 hO
  injection hO with a2 hO
  injection hO with a3 a4
  subst a1 a2 a3 a4
  clear hj H8 F
  obtain ⟨A2, c2, rfl, hc2⟩ := H9.slice (v := v') (by repeat (with_reducible (first | exact At.here | apply At.there)))
  rw [errW_none]
  have F := (H9).facts; simp only [factsOf, Asr.facts, blkFacts, cellsAre, List.toList_toArray, forall_const, Nat.zero_add, Nat.reduceAdd, and_true, true_and] at F
  go_wp2_with (first
    | ((with_reducible refine gate_load (t := 28) (x := .tmp 4) rfl ?_); (apply Cx.atList); (focus ((repeat (with_reducible (first | exact (H9).toS | exact At.here | apply At.there | apply CxS.drewN | apply CxS.drew | apply CxS.alloc | apply CxS.set | apply CxS.setRow))))); intro HT_; refine wpList_load_row rfl 28 (.tmp 4) rfl (w3.heap.size) rfl _ (u8A S) _ _ (HT_.blk (by repeat (with_reducible (first | exact At.here | apply At.there)))) Try.underlying28 rfl (by rw [u8A_size, HSL.out]; exact info_sector) ?_; clear HT_))
  ((first | apply Cx.genCall | apply Cx.genCode | apply Cx.genList); (focus ((repeat (with_reducible (first | exact (H9).toS | exact At.here | apply At.there | apply CxS.drewN | apply CxS.drew | apply CxS.alloc | apply CxS.set | apply CxS.setRow))))); clear H9; intro w10 H10)
  clear F
  refine (box_Is.calls S k g n _ HSL.out HSB.out).mono ?_
  rintro e w11 h
  rcases h with ⟨hO, rfl, hj⟩ | ⟨d', v', hO, rfl, hj⟩
  case inl => rw [HIP.out] at hO; cases hO
  have H11 := (H10).join hj; simp only [List.cons_append, List.nil_append] at H11
  rw [HIP.out] at hO
  injection hO with hO
  subst hO
  clear hj H10
  obtain ⟨A3, c3, rfl, hc3⟩ := H11.slice (v := v') (by repeat (with_reducible (first | exact At.here | apply At.there)))
  have F := (H11).facts; simp only [factsOf, Asr.facts, blkFacts, cellsAre, List.toList_toArray, forall_const, Nat.zero_add, Nat.reduceAdd, and_true, true_and] at F
  go_wp2_with fail
  (with_reducible refine (same_n A2 d.length c2 d A0 m c0 d true _ (H11.row (xs := d) (A := A2) (c := c2) (n := d.length) (by repeat (with_reducible (first | exact At.here | apply At.there)))).2.2 hc2 (Kd.C_below HC.out H11.bel) HM.out HD.out HD.out (decide_eq_true rfl).symm).mono ?_)
  rintro e w12 ⟨rfl, hdr⟩
  have H12 := H11.below hdr.below
  clear hdr H11 F
  have F := (H12).facts; simp only [factsOf, Asr.facts, blkFacts, cellsAre, List.toList_toArray, forall_const, Nat.zero_add, Nat.reduceAdd, and_true, true_and] at F
  go_wp2_with fail
  (with_reducible refine (same_n A3 d.length c3 d A0 m c0 d true _ (H12.row (xs := d) (A := A3) (c := c3) (n := d.length) (by repeat (with_reducible (first | exact At.here | apply At.there)))).2.2 hc3 (Kd.C_below HC.out H12.bel) HM.out HD.out HD.out (decide_eq_true rfl).symm).mono ?_)
  rintro e w13 ⟨rfl, hdr⟩
  have H13 := H12.below hdr.below
  clear hdr H12 F
  have F := (H13).facts; simp only [factsOf, Asr.facts, blkFacts, cellsAre, List.toList_toArray, forall_const, Nat.zero_add, Nat.reduceAdd, and_true, true_and] at F
  go_wp2_with fail
  (apply Cx.atCall; (focus ((repeat (with_reducible (first | exact (H13).toS | exact At.here | apply At.there | apply CxS.drewN | apply CxS.drew | apply CxS.alloc | apply CxS.set | apply CxS.setRow))))); intro HT)
  refine (laminanum_Apart.two HT (by repeat (with_reducible (first | exact At.here | apply At.there))) (v1 := .slice A2 d.length c2) (l1 := d) (v2 := .slice A3 d.length c3) (l2 := d) (by repeat (with_reducible (first | exact At.here | apply At.there))) (by repeat (with_reducible (first | exact At.here | apply At.there))) HLL.out HLL.out).mono ?_
  rintro e w14 ⟨rfl, hb14⟩
  go_wp2
  go_ret
  exact ⟨by first | rfl | simp, HT.bel.trans hb14⟩

end Go.Proofs.Ytgnpmephgdghhaa.Hp
