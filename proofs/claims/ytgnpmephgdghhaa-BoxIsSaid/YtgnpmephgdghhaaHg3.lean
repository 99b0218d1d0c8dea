/- Contracts of functions of the given program, and what they lean on: written by this session's own program, out of hand texts laid into the kit's printer. -/
import Derived.Test.YtgnpmephgdghhaaHp0
import Derived.Test.YtgnpmephgdghhaaHg1
import Derived.Test.YtgnpmephgdghhaaHg2
namespace Go.Proofs.Ytgnpmephgdghhaa.Hp
open Go.RowKit Go.Proofs.YtgnpmephgdghhaaW.PrintWords Go.Proofs.YtgnpmephgdghhaaW.PrintLast Go.Proofs.YtgnpmephgdghhaaW.PrintMore
attribute [local go_sem] max2_int min2_int max_two min_two max_three min_three max_four min_four   -- for this text's walks alone
set_option linter.unusedVariables false
set_option linter.unusedSimpArgs false

/-! ### laminaref04_Seal: function 11 -/
/-- An error as the document's number. -/
def errN : Option Int → Int
  | none => 0
  | some c => c
/-- A sector of which the first i bytes are told. -/
def partL (L : List Int) (i : Nat) : List Int := L.take i ++ List.replicate (128 - i) 0
theorem partL_len (L : List Int) (i : Nat) (hL : L.length = 128) (hi : i ≤ 128) : (partL L i).length = 128 := by simp [partL, hL]; omega
theorem partL_set (L : List Int) (i : Nat) (hL : L.length = 128) (hi : i < 128) (x : Int) (hx : x = rd L i) : (u8A (partL L i)).setIfInBounds i (.int .u8 x) = u8A (partL L (i + 1)) := by
  have h : (partL L i).set i x = partL L (i + 1) := by
    unfold partL
    have hl : (L.take i).length = i := by rw [List.length_take]; omega
    rw [List.set_append_right _ _ (by omega), hl, Nat.sub_self, show 128 - i = (128 - (i + 1)) + 1 by omega, List.replicate_succ, List.set_cons_zero, List.take_succ_eq_append_getElem (by omega)]
    have : L[i] = x := by rw [hx]; simp [rd, hL, hi]
    rw [this]
    simp
  rw [← h]
  simp [u8A]
theorem partL_all (L : List Int) (hL : L.length = 128) : partL L 128 = L := by
  unfold partL
  rw [List.take_of_length_le (by omega)]
  simp
theorem rd_sum (s : Int) (p : List Int) (i : Nat) (hi : i < 4) : rd (sumB s ++ p) i = s / 256 ^ i % 256 := by
  have h1 : (sumB s ++ p)[i]? = some (s / 2 ^ (8 * i) % 256) := by
    rw [List.getElem?_append_left (by rw [sumB_len]; exact hi)]
    simp [sumB, hi]
  have h2 : (2 : Int) ^ (8 * i) = 256 ^ i := by rw [Int.pow_mul]; rfl
  rw [← h2]
  simp [rd, h1]
theorem rd_pad (s : Int) (p : List Int) (i : Nat) (hi : 4 ≤ i) : rd (sumB s ++ p) i = rd p (i - 4 : Nat) := by
  simp only [rd, Int.toNat_natCast, List.getD_eq_getElem?_getD]
  rw [List.getElem?_append_right (by rw [sumB_len]; exact hi), sumB_len]
set_option maxRecDepth 100000 in
set_option maxHeartbeats 4000000 in
theorem laminaref04_Seal.range (k g n : Int) (A : Option Addr) (m c : Nat) (d : List Int) (w : World) (hin : inR k g n = false) : Calls Try.prog 11 #[.agg #[.int .i64 k, .int .i64 g, .int .i64 n, .slice A m c]] w fun e w' => e = .returned (.tuple #[.agg (u8A (sealO k g n d).1), .int .i64 (errN (sealO k g n d).2)]) ∧ Cx w.heap.size w w' [] := by
  have H0 := Cx.start w
  have hz := zero_sector
  have hso : sealO k g n d = (z128, some 1) := by unfold sealO; rw [hin]; rfl
  rw [hso]
  clear hso
  have hq : ¬ ((1 ≤ k ∧ k ≤ 255) ∧ (0 ≤ g ∧ g ≤ 4611686018427387904) ∧ (0 ≤ n ∧ n ≤ 2147483647)) := by
    rintro ⟨h1, h2, h3⟩
    unfold inR at hin
    rw [decide_eq_true h1, decide_eq_true h2, decide_eq_true h3] at hin
    cases hin
  clear hin
  have HQ := Aside0.mk hq
  clear hq
  go_enter Try.func11, Try.ntmps11
  have hpr : 106 < m ∨ m ≤ 106 := by omega
  have HM := Aside0.mk hpr
  clear hpr
  go_wp2_with (first | ((with_reducible refine gate_load (t := 28) (x := .tmp 4) rfl ?_); (apply Cx.atList); (focus ((repeat (with_reducible (first | exact (H0).toS | exact At.here | apply At.there | apply CxS.drewN | apply CxS.drew | apply CxS.alloc | apply CxS.set | apply CxS.setRow))))); intro HT_; refine wpList_load_row rfl 28 (.tmp 4) rfl (w.heap.size + 1 + 1) rfl _ (u8A z128) _ _ (HT_.blk (by repeat (with_reducible (first | exact At.here | apply At.there)))) Try.underlying28 rfl (info_z) ?_; clear HT_) | ((with_reducible refine gate_store (t := 28) (x := .tmp 2) (y := .tmp 36) rfl ?_); (apply Cx.atList); (focus ((repeat (with_reducible (first | exact (H0).toS | exact At.here | apply At.there | apply CxS.drewN | apply CxS.drew | apply CxS.alloc | apply CxS.set | apply CxS.setRow))))); intro HT_; refine wpList_store_row rfl 28 (.tmp 2) (.tmp 36) rfl (w.heap.size + 1) (u8A z128) rfl rfl _ _ (HT_.blk (by repeat (with_reducible (first | exact At.here | apply At.there)))) (info_z) (rfl) (u8A_one _) ?_; clear HT_) | ((with_reducible refine gate_store (t := 28) (x := .tmp 2) (y := .tmp 41) rfl ?_); exfalso; apply HQ.out; omega) | (go_at_call 29; exfalso; apply HQ.out; omega))
  all_goals (((try simp only [Exit.inBlock, Exit.then]); (apply Cx.atPost); (focus ((repeat (with_reducible (first | exact (H0).toS | exact At.here | apply At.there | apply CxS.drewN | apply CxS.drew | apply CxS.alloc | apply CxS.set | apply CxS.setRow))))); intro HT); exact bodyPost_ret (results_ct rfl _ _ (w.heap.size + 1) _ (u8A z128) (0, 0) _ rfl (HT.blk (b := w.heap.size + 1) (by repeat (with_reducible (first | exact At.here | apply At.there)))) Try.underlying28 rfl info_z) rfl ⟨rfl, HT.nil⟩)
set_option maxRecDepth 100000 in
set_option maxHeartbeats 4000000 in
theorem laminaref04_Seal.form (k g n : Int) (A : Option Addr) (m c : Nat) (d : List Int) (w : World) (hin : inR k g n = true) (hm : m = d.length) (hmx : m ≤ 9223372036854775807) (hl : ¬ d.length ≤ 106) : Calls Try.prog 11 #[.agg #[.int .i64 k, .int .i64 g, .int .i64 n, .slice A m c]] w fun e w' => e = .returned (.tuple #[.agg (u8A (sealO k g n d).1), .int .i64 (errN (sealO k g n d).2)]) ∧ Cx w.heap.size w w' [] := by
  have H0 := Cx.start w
  have hz := zero_sector
  have hso : sealO k g n d = (z128, some 2) := by unfold sealO; rw [hin, if_pos rfl, if_neg hl]; rfl
  rw [hso]
  clear hso
  unfold inR at hin
  simp only [Bool.and_eq_true] at hin
  have hk : 1 ≤ k ∧ k ≤ 255 := of_decide_eq_true hin.1.1
  have hg : 0 ≤ g ∧ g ≤ 4611686018427387904 := of_decide_eq_true hin.1.2
  have hn : 0 ≤ n ∧ n ≤ 2147483647 := of_decide_eq_true hin.2
  have hml : 106 < m := by omega
  have HQ : Aside0 (¬ (m ≤ 106)) := ⟨by omega⟩
  clear hin hm hl
  go_enter Try.func11, Try.ntmps11
  go_wp2_with (first | ((with_reducible refine gate_load (t := 28) (x := .tmp 4) rfl ?_); (apply Cx.atList); (focus ((repeat (with_reducible (first | exact (H0).toS | exact At.here | apply At.there | apply CxS.drewN | apply CxS.drew | apply CxS.alloc | apply CxS.set | apply CxS.setRow))))); intro HT_; refine wpList_load_row rfl 28 (.tmp 4) rfl (w.heap.size + 1 + 1) rfl _ (u8A z128) _ _ (HT_.blk (by repeat (with_reducible (first | exact At.here | apply At.there)))) Try.underlying28 rfl (info_z) ?_; clear HT_) | ((with_reducible refine gate_store (t := 28) (x := .tmp 2) (y := .tmp 41) rfl ?_); (apply Cx.atList); (focus ((repeat (with_reducible (first | exact (H0).toS | exact At.here | apply At.there | apply CxS.drewN | apply CxS.drew | apply CxS.alloc | apply CxS.set | apply CxS.setRow))))); intro HT_; refine wpList_store_row rfl 28 (.tmp 2) (.tmp 41) rfl (w.heap.size + 1) (u8A z128) rfl rfl _ _ (HT_.blk (by repeat (with_reducible (first | exact At.here | apply At.there)))) (info_z) (rfl) (u8A_one _) ?_; clear HT_) | ((with_reducible refine gate_store (t := 28) (x := .tmp 2) (y := .tmp 41) rfl ?_); exfalso; apply HQ.out; omega) | (go_at_call 29; exfalso; apply HQ.out; omega))
  all_goals (((try simp only [Exit.inBlock, Exit.then]); (apply Cx.atPost); (focus ((repeat (with_reducible (first | exact (H0).toS | exact At.here | apply At.there | apply CxS.drewN | apply CxS.drew | apply CxS.alloc | apply CxS.set | apply CxS.setRow))))); intro HT); exact bodyPost_ret (results_ct rfl _ _ (w.heap.size + 1) _ (u8A z128) (0, 0) _ rfl (HT.blk (b := w.heap.size + 1) (by repeat (with_reducible (first | exact At.here | apply At.there)))) Try.underlying28 rfl info_z) rfl ⟨rfl, HT.nil⟩)
set_option maxRecDepth 100000 in
set_option maxHeartbeats 4000000 in
theorem laminaref04_Seal.good (k g n : Int) (A : Option Addr) (m c : Nat) (d : List Int) (w : World) (hr : Kd.C (Kd.int .u8) w A m d) (hd : ∀ x ∈ d, 0 ≤ x ∧ x < 256) (hc : m ≤ c) (hin : inR k g n = true) (hl : d.length ≤ 106) : Calls Try.prog 11 #[.agg #[.int .i64 k, .int .i64 g, .int .i64 n, .slice A m c]] w fun e w' => e = .returned (.tuple #[.agg (u8A (sealO k g n d).1), .int .i64 (errN (sealO k g n d).2)]) ∧ Cx w.heap.size w w' [] := by
  have H0 := Cx.start w
  have hz := zero_sector
  have hal := @alloc_cell
  have hso : sealO k g n d = (secL k g n d, none) := by unfold sealO; rw [hin, if_pos rfl, if_pos hl]
  rw [hso]
  clear hso
  unfold inR at hin
  simp only [Bool.and_eq_true] at hin
  have hk : 1 ≤ k ∧ k ≤ 255 := of_decide_eq_true hin.1.1
  have hg : 0 ≤ g ∧ g ≤ 4611686018427387904 := of_decide_eq_true hin.1.2
  have hn : 0 ≤ n ∧ n ≤ 2147483647 := of_decide_eq_true hin.2
  have hkm : k % 256 = k := Int.emod_eq_of_lt (by omega) (by omega)
  have hml : m ≤ 106 := by have := hr.1; omega
  have hlm : (m : Int) % 256 = m := Int.emod_eq_of_lt (by omega) (by omega)
  have HMD := Aside0.mk hr.1
  have HR := Aside0.mk hr
  have HD := Aside0.mk hd
  clear hin hr hd
  go_enter Try.func11, Try.ntmps11
  go_wp2_with fail
  ((first | apply Cx.genCall | apply Cx.genCode | apply Cx.genList); (focus ((repeat (with_reducible (first | exact (H0).toS | exact At.here | apply At.there | apply CxS.drewN | apply CxS.drew | apply CxS.alloc | apply CxS.set | apply CxS.setRow))))); clear H0; intro w1 H1)
  have H1 := H1.lit (cs := #[.int .u8 k]) [k] (by repeat (with_reducible (first | exact At.here | apply At.there))) rfl (by simp)
  refine (laminaref03_Num.calls 9 g (numL g) _ (rnum_f g 9 (by omega))).mono ?_
  rintro e w2 ⟨v2, rfl, ho, hb⟩
  have H2 := H1.push ho hb
  obtain ⟨A2, c2, rfl, hc2⟩ := H2.slice (v := v2) (by repeat (with_reducible (first | exact At.here | apply At.there)))
  clear H1 ho hb
  rw [numL_len] at H2 hc2 ⊢
  simp only [List.length_singleton] at H2
  have F := (H2).facts; simp only [factsOf, Asr.facts, blkFacts, cellsAre, List.toList_toArray, forall_const, Nat.zero_add, Nat.reduceAdd, and_true, true_and] at F
  go_wp2_with (((with_reducible refine gate_builtin (b := .append) (xs := #[.tmp 46, .tmp 49]) rfl ?_); at_builtin; (apply Cx.atList); (focus ((repeat (with_reducible (first | exact (H2).toS | exact At.here | apply At.there | apply CxS.drewN | apply CxS.drew | apply CxS.alloc | apply CxS.set | apply CxS.setRow))))); intro HT_; obtain ⟨ok_, hR_, hF_, hC_⟩ := HT_.grow (d := Kd.int .u8) (e := 5) (v := _) (xs := [k]) (by repeat (with_reducible (first | exact At.here | apply At.there))); (refine Kd.R_append_rows (Kd.int .u8) (w0 := _) 0 rfl (.tmp 46) (.tmp 49) 22 5 (.int .u8 0) 1 rfl Try.underlying22 info5 rfl (by decide) (by omega) (_) ([k]) (numL g) _ _ _ ok_ (fun _ => False) rfl rfl hR_ ((HT_.rowN (xs := numL g) (by repeat (with_reducible (first | exact At.here | apply At.there)))).1) (fun _ _ h => h) (fun _ h => h.elim) hF_ (Below.refl _ _) (Nat.zero_le _) (by (simp)) ?_); intro v3 w1_ ho_ hb_ hg_ hat_; have H3 := hC_ _ _ _ ho_ hg_; clear ho_ hb_ hg_ hat_ hC_ hF_ hR_ HT_; obtain ⟨A3, c3, rfl, hc3⟩ := H3.slice (v := v3) (by repeat (with_reducible (first | exact At.here | apply At.there))); clear H2 F; have hl_3 : ([k] ++ numL g).length = 9 := (by simp [numL_len] <;> omega); rw [hl_3] at H3 hc3 ⊢; generalize hq_3 : [k] ++ numL g = L3 at *; have HQ3 := Aside0.mk hq_3; have HL3 := Aside0.mk hl_3; clear hq_3 hl_3; have F := (H3).facts; simp only [factsOf, Asr.facts, blkFacts, cellsAre, List.toList_toArray, forall_const, Nat.zero_add, Nat.reduceAdd, and_true, true_and] at F))
  refine (laminaref03_Num.calls 9 n (numL n) _ (rnum_f n 9 (by omega))).mono ?_
  rintro e w4 ⟨v4, rfl, ho, hb⟩
  have H4 := H3.push ho hb
  obtain ⟨A4, c4, rfl, hc4⟩ := H4.slice (v := v4) (by repeat (with_reducible (first | exact At.here | apply At.there)))
  clear H3 ho hb F H1
  rw [numL_len] at H4 hc4 ⊢
  have F := (H4).facts; simp only [factsOf, Asr.facts, blkFacts, cellsAre, List.toList_toArray, forall_const, Nat.zero_add, Nat.reduceAdd, and_true, true_and] at F
  go_wp2_with (first
    | ((with_reducible refine gate_builtin (b := .append) (xs := #[.tmp 51, .tmp 54]) rfl ?_); at_builtin; (apply Cx.atList); (focus ((repeat (with_reducible (first | exact (H4).toS | exact At.here | apply At.there | apply CxS.drewN | apply CxS.drew | apply CxS.alloc | apply CxS.set | apply CxS.setRow))))); intro HT_; obtain ⟨ok_, hR_, hF_, hC_⟩ := HT_.grow (d := Kd.int .u8) (e := 5) (v := _) (xs := L3) (by repeat (with_reducible (first | exact At.here | apply At.there))); (refine Kd.R_append_rows (Kd.int .u8) (w0 := _) 0 rfl (.tmp 51) (.tmp 54) 22 5 (.int .u8 0) 1 rfl Try.underlying22 info5 rfl (by decide) (by omega) (_) (L3) (numL n) _ _ _ ok_ (fun _ => False) rfl rfl hR_ ((HT_.rowN (xs := numL n) (by repeat (with_reducible (first | exact At.here | apply At.there)))).1) (fun _ _ h => h) (fun _ h => h.elim) hF_ (Below.refl _ _) (Nat.zero_le _) (by (rw [HL3.out]; omega)) ?_); intro v5 w1_ ho_ hb_ hg_ hat_; have H5 := hC_ _ _ _ ho_ hg_; clear ho_ hb_ hg_ hat_ hC_ hF_ hR_ HT_; obtain ⟨A5, c5, rfl, hc5⟩ := H5.slice (v := v5) (by repeat (with_reducible (first | exact At.here | apply At.there))); clear H4 F; have hl_5 : (L3 ++ numL n).length = 17 := (by rw [List.length_append, HL3.out, numL_len]); rw [hl_5] at H5 hc5 ⊢; generalize hq_5 : L3 ++ numL n = L5 at *; have HQ5 := Aside0.mk hq_5; have HL5 := Aside0.mk hl_5; clear hq_5 hl_5; have F := (H5).facts; simp only [factsOf, Asr.facts, blkFacts, cellsAre, List.toList_toArray, forall_const, Nat.zero_add, Nat.reduceAdd, and_true, true_and] at F)
    | ((with_reducible refine gate_builtin (b := .append) (xs := #[.tmp 56, .tmp 61]) rfl ?_); at_builtin; (apply Cx.atList); (focus ((repeat (with_reducible (first | exact (H5).toS | exact At.here | apply At.there | apply CxS.drewN | apply CxS.drew | apply CxS.alloc | apply CxS.set | apply CxS.setRow))))); intro HT_; obtain ⟨ok_, hR_, hF_, hC_⟩ := HT_.grow (d := Kd.int .u8) (e := 5) (v := _) (xs := L5) (by repeat (with_reducible (first | exact At.here | apply At.there))); (refine Kd.R_append_rows (Kd.int .u8) (w0 := _) 0 rfl (.tmp 56) (.tmp 61) 22 5 (.int .u8 0) 1 rfl Try.underlying22 info5 rfl (by decide) (by omega) (_) (L5) ([(m : Int)]) _ _ _ ok_ (fun _ => False) rfl rfl hR_ (C_lit1 (HT_.blk (o := .cells #[.int .u8 m] 5 (0, 0)) (by repeat (with_reducible (first | exact At.here | apply At.there))))) (fun _ _ h => h) (fun _ h => h.elim) hF_ (Below.refl _ _) (Nat.zero_le _) (by (rw [HL5.out]; omega)) ?_); intro v6 w1_ ho_ hb_ hg_ hat_; have H6 := hC_ _ _ _ ho_ hg_; clear ho_ hb_ hg_ hat_ hC_ hF_ hR_ HT_; obtain ⟨A6, c6, rfl, hc6⟩ := H6.slice (v := v6) (by repeat (with_reducible (first | exact At.here | apply At.there))); clear H5 F; have hl_6 : (L5 ++ [(m : Int)]).length = 18 := (by rw [List.length_append, HL5.out]; rfl); rw [hl_6] at H6 hc6 ⊢; generalize hq_6 : L5 ++ [(m : Int)] = L6 at *; have HQ6 := Aside0.mk hq_6; have HL6 := Aside0.mk hl_6; clear hq_6 hl_6; have F := (H6).facts; simp only [factsOf, Asr.facts, blkFacts, cellsAre, List.toList_toArray, forall_const, Nat.zero_add, Nat.reduceAdd, and_true, true_and] at F)
    | ((with_reducible refine gate_builtin (b := .append) (xs := #[.tmp 63, .tmp 65]) rfl ?_); at_builtin; (apply Cx.atList); (focus ((repeat (with_reducible (first | exact (H6).toS | exact At.here | apply At.there | apply CxS.drewN | apply CxS.drew | apply CxS.alloc | apply CxS.set | apply CxS.setRow))))); intro HT_; obtain ⟨ok_, hR_, hF_, hC_⟩ := HT_.grow (d := Kd.int .u8) (e := 5) (v := _) (xs := L6) (by repeat (with_reducible (first | exact At.here | apply At.there))); (refine Kd.R_append_rows (Kd.int .u8) (w0 := _) 0 rfl (.tmp 63) (.tmp 65) 22 5 (.int .u8 0) 1 rfl Try.underlying22 info5 rfl (by decide) (by omega) (_) (L6) (d) _ _ _ ok_ (fun _ => False) rfl rfl hR_ (Kd.C_below HR.out HT_.bel) (fun _ _ h => h) (fun _ h => h.elim) hF_ (Below.refl _ _) (Nat.zero_le _) (by (rw [HL6.out]; omega)) ?_); intro v7 w1_ ho_ hb_ hg_ hat_; have H7 := hC_ _ _ _ ho_ hg_; clear ho_ hb_ hg_ hat_ hC_ hF_ hR_ HT_; obtain ⟨A7, c7, rfl, hc7⟩ := H7.slice (v := v7) (by repeat (with_reducible (first | exact At.here | apply At.there))); clear H6 F; have hl_7 : (L6 ++ d).length = 18 + m := (by rw [List.length_append, HL6.out, HMD.out]); have hq_7 : L6 ++ d = bodyL k g n d := (by rw [← HQ6.out, ← HQ5.out, ← HQ3.out]; unfold bodyL; rw [HMD.out]); rw [hl_7, hq_7] at H7; rw [hl_7] at hc7 ⊢; clear hl_7 hq_7; have F := (H7).facts; simp only [factsOf, Asr.facts, blkFacts, cellsAre, List.toList_toArray, forall_const, Nat.zero_add, Nat.reduceAdd, and_true, true_and] at F))
  have H8 := ((H7.drop (a := .own bytesR (.slice A4 8 c4) (numL n)) (by repeat (with_reducible (first | exact At.here | apply At.there)))).drop (a := .own bytesR (.slice A2 8 c2) (numL g)) (by repeat (with_reducible (first | exact At.here | apply At.there)))).drop (a := .blk w.heap.size (.cells #[.int .i64 k, .int .i64 g, .int .i64 n, .slice A m c] 24 (0, 0))) (by repeat (with_reducible (first | exact At.here | apply At.there)))
  clear H7 F
  have HBL := Aside0.mk (bodyL_len k g n d)
  have HPD := Aside0.mk (show padL k g n d = bodyL k g n d ++ List.replicate (106 - m) 0 by unfold padL; rw [HMD.out])
  have hpl := padL_len k g n d hl
  have HPB := Aside0.mk (padL_bd k g n d ⟨by omega, by omega⟩ HD.out hl)
  have HSL := Aside0.mk (show secL k g n d = sumB (sumI [padL k g n d]) ++ padL k g n d from rfl)
  have HPL := Aside0.mk hpl
  clear hpl
  generalize bodyL k g n d = bd at *
  obtain ⟨w8, rfl⟩ : ∃ w8 : World, w8 = w1_ := ⟨_, rfl⟩
  go_loopw [5] (fun v5 wr => ∃ (j c' : Nat) (A' : Option Addr), j ≤ 106 - m ∧ v5 = .slice A' (18 + m + j) c' ∧ Cx w.heap.size w wr [.own bytesR (.slice A' (18 + m + j) c') (bd ++ List.replicate j 0), .blk (w.heap.size + 1 + 1) (.cells (u8A z128) 28 (0, 0)), .blk (w.heap.size + 1) (.cells (u8A z128) 28 (0, 0))]) (fun v5 _ => 124 - lenV v5)
  case atStart => exact ⟨0, c7, A7, by omega, rfl, by have := H8.drop (a := .blk _ (.cells #[.int .u8 (m : Int)] 5 (0, 0))) (by repeat (with_reducible (first | exact At.here | apply At.there))); simpa using this⟩
  case round =>
    clear H8
    obtain ⟨j, c', A', hj, rfl, H9⟩ := hrel
    have hjl : (bd ++ List.replicate j 0).length = 18 + m + j := by rw [List.length_append, HBL.out, List.length_replicate, HMD.out]
    have HJL := Aside0.mk hjl
    clear hjl
    by_cases hlt : j < 106 - m
    · have HJS := Aside0.mk (show bd ++ List.replicate (j + 1) 0 = (bd ++ List.replicate j 0) ++ [0] by rw [List.replicate_succ', List.append_assoc])
      generalize bd ++ List.replicate j 0 = X at *
      go_wp2_with (((with_reducible refine gate_builtin (b := .append) (xs := #[.tmp 70, .tmp 71]) rfl ?_); at_builtin; (apply Cx.atList); (focus ((repeat (with_reducible (first | exact (H9).toS | exact At.here | apply At.there | apply CxS.drewN | apply CxS.drew | apply CxS.alloc | apply CxS.set | apply CxS.setRow))))); intro HT_; obtain ⟨ok_, hR_, hF_, hC_⟩ := HT_.grow (d := Kd.int .u8) (e := 5) (v := _) (xs := X) (by repeat (with_reducible (first | exact At.here | apply At.there))); (refine Kd.R_append_rows (Kd.int .u8) (w0 := _) 0 rfl (.tmp 70) (.tmp 71) 22 5 (.int .u8 0) 1 rfl Try.underlying22 info5 rfl (by decide) (by omega) (_) (X) ([(0 : Int)]) _ _ _ ok_ (fun _ => False) rfl rfl hR_ (C_lit1 (HT_.blk (o := .cells #[.int .u8 0] 5 (0, 0)) (by repeat (with_reducible (first | exact At.here | apply At.there))))) (fun _ _ h => h) (fun _ h => h.elim) hF_ (Below.refl _ _) (Nat.zero_le _) (by (rw [HJL.out]; omega)) ?_); intro v10 w1_ ho_ hb_ hg_ hat_; have H10 := hC_ _ _ _ ho_ hg_; clear ho_ hb_ hg_ hat_ hC_ hF_ hR_ HT_; obtain ⟨A10, c10, rfl, hc10⟩ := H10.slice (v := v10) (by repeat (with_reducible (first | exact At.here | apply At.there))); clear H9; have hl_7 : (X ++ [(0 : Int)]).length = 18 + m + (j + 1) := (by rw [List.length_append, HJL.out]; rfl); rw [hl_7, ← HJS.out] at H10; rw [hl_7] at hc10 ⊢; clear hl_7))
      refine ⟨⟨j + 1, c10, A10, by omega, rfl, H10.drop (a := .blk _ (.cells #[.int .u8 0] 5 (0, 0))) (by repeat (with_reducible (first | exact At.here | apply At.there)))⟩, by simp [lenV]; omega⟩
    · obtain rfl : j = 106 - m := by omega
      rw [← HPD.out] at H9
      have hmm : 18 + m + (106 - m) = 124 := by omega
      rw [hmm] at H9 ⊢
      clear hmm HJL
      generalize padL k g n d = p at *
      go_wp2_with fail
      have hsum := laminaref01_Sum.calls (p.length + 20) A' c' p (sumI [p]) wr (by have := (H9.rowN (xs := p) (by repeat (with_reducible (first | exact At.here | apply At.there)))).1; rw [HPL.out]; exact this) (by have := (H9.rowN (xs := p) (by repeat (with_reducible (first | exact At.here | apply At.there)))).2; rw [HPL.out]; exact this) (refsum p HPB.out (by rw [HPL.out]; omega))
      rw [HPL.out] at hsum
      refine hsum.mono ?_
      rintro e w10 ⟨rfl, hdr⟩
      have H10 := (H9.below hdr.below).find (a := .blk (w.heap.size + 1 + 1) (.cells (u8A z128) 28 (0, 0))) (by repeat (with_reducible (first | exact At.here | apply At.there)))
      clear hsum hdr H9
      have hsb := sumI_bd [p] 0 (by decide) (by decide) (fun l hl x hx => by rw [List.mem_singleton] at hl; subst hl; exact HPB.out x hx)
      have hs0 : 0 ≤ sumI [p] := hsb.1
      have hs1 : sumI [p] < 4294967296 := hsb.2
      clear hsb
      generalize sumI [p] = s at *
      have HSS := Aside0.mk (show (secL k g n d).length = 128 from secL_len k g n d hl)
      have HL := Aside0.mk (show ∀ i : Nat, rd (secL k g n d) i = rd (sumB s ++ p) i by intro i; rw [HSL.out])
      generalize hLq : secL k g n d = L at *
      have HLQ := Aside0.mk hLq
      clear hLq
      go_wp2
      go_loopw [6, 7] (fun v6 v7 wr => ∃ i : Nat, i ≤ 128 ∧ v7 = .int .i64 i ∧ v6 = .int .u32 (s / 256 ^ (min i 4)) ∧ Cx w.heap.size w wr [.blk (w.heap.size + 1 + 1) (.cells (u8A (partL L i)) 28 (0, 0)), .own bytesR (.slice A' 124 c') p, .blk (w.heap.size + 1) (.cells (u8A z128) 28 (0, 0))]) (fun _ v7 _ => 128 - (intOf v7).toNat)
      case atStart => exact ⟨0, by omega, rfl, by simp, H10⟩
      case round =>
        clear H10
        obtain ⟨i, hi, rfl, rfl, H11⟩ := hrel
        have hpl := partL_len L i HSS.out hi
        by_cases h128 : i < 128
        · have hcell : wr.cell? ⟨w.heap.size + 1 + 1, i, none⟩ = some (.int .u8 (rd (partL L i) i)) := (blk_cell (H11.blk (b := w.heap.size + 1 + 1) (by repeat (with_reducible (first | exact At.here | apply At.there)))) i).trans (u8A_at _ _ (by omega))
          have hfr : wr.frozen? ⟨w.heap.size + 1 + 1, i, none⟩ = false := blk_frozen (H11.blk (b := w.heap.size + 1 + 1) (by repeat (with_reducible (first | exact At.here | apply At.there)))) i
          clear hpl
          generalize rd (partL L i) i = old at *
          by_cases h4 : i < 4
          · have hm4 : min i 4 = i := by omega
            have hm5 : min (i + 1) 4 = i + 1 := by omega
            have HX := Aside0.mk (show s / 256 ^ i % 256 = rd L i by rw [HL.out, rd_sum s p i h4])
            have HN := Aside0.mk (show s / 256 ^ (min (i + 1) 4) = s / 256 ^ i / 256 by rw [hm5, Int.pow_succ]; exact (Int.ediv_ediv_of_nonneg (Int.le_of_lt (Int.pow_pos (by decide)))).symm)
            rw [hm4]
            have hq0 : 0 ≤ s / 256 ^ i := Int.ediv_nonneg hs0 (Int.le_of_lt (Int.pow_pos (by decide)))
            have hq1 : s / 256 ^ i < 4294967296 := Int.lt_of_le_of_lt (Int.ediv_le_self _ hs0) hs1
            clear hm4 hm5
            generalize s / 256 ^ i = q at *
            have hqq : q % 256 % 256 = q % 256 := by omega
            go_wp2
            refine ⟨⟨i + 1, by omega, by go_num, by rw [HN.out], ?_⟩, by simp [intOf]; omega⟩
            rw [← partL_set L i HSS.out h128 _ HX.out]
            exact (CxS.set H11.toS At.here _ _).cx
          · have hm4 : min i 4 = 4 := by omega
            have hm5 : min (i + 1) 4 = 4 := by omega
            have HM5 := Aside0.mk hm5
            rw [hm4]
            clear hm4 hm5
            obtain ⟨j, rfl⟩ : ∃ j, i = j + 4 := ⟨i - 4, by omega⟩
            obtain ⟨ad, e, hx⟩ := C_cells (H11.row (xs := p) (by repeat (with_reducible (first | exact At.here | apply At.there)))).2.2 (by rw [HPL.out]; omega)
            subst e
            have hxj := hx j (by rw [HPL.out]; omega)
            have HX := Aside0.mk (show rd p j = rd L (j + 4 : Nat) by rw [HL.out, rd_pad s p (j + 4) (by omega), Nat.add_sub_cancel])
            clear hx
            generalize rd p j = x at *
            generalize hq4 : s / 256 ^ 4 = q at *
            have HQ4 := Aside0.mk hq4
            clear hq4
            go_wp2
            refine ⟨⟨j + 4 + 1, by omega, by go_num, by rw [HM5.out, HQ4.out], ?_⟩, by simp [intOf]; omega⟩
            rw [← partL_set L (j + 4) HSS.out h128 _ HX.out]
            exact (CxS.set H11.toS At.here _ _).cx
        · obtain rfl : i = 128 := by omega
          rw [partL_all L HSS.out] at H11
          clear hpl
          generalize s / 256 ^ (min 128 4) = q at *
          go_wp2_with (first
            | ((with_reducible refine gate_load (t := 28) (x := .tmp 4) rfl ?_); (apply Cx.atList); (focus ((repeat (with_reducible (first | exact (H11).toS | exact At.here | apply At.there | apply CxS.drewN | apply CxS.drew | apply CxS.alloc | apply CxS.set | apply CxS.setRow))))); intro HT_; refine wpList_load_row rfl 28 (.tmp 4) rfl (w.heap.size + 1 + 1) rfl _ (u8A L) _ _ (HT_.blk (by repeat (with_reducible (first | exact At.here | apply At.there)))) Try.underlying28 rfl (by rw [u8A_size, HSS.out]; exact info_sector) ?_; clear HT_)
            | ((with_reducible refine gate_store (t := 28) (x := .tmp 2) (y := .tmp 95) rfl ?_); (apply Cx.atList); (focus ((repeat (with_reducible (first | exact (H11).toS | exact At.here | apply At.there | apply CxS.drewN | apply CxS.drew | apply CxS.alloc | apply CxS.set | apply CxS.setRow))))); intro HT_; refine wpList_store_row rfl 28 (.tmp 2) (.tmp 95) rfl (w.heap.size + 1) (u8A L) rfl rfl _ _ (HT_.blk (by repeat (with_reducible (first | exact At.here | apply At.there)))) (by rw [u8A_size, HSS.out]; exact info_sector) (by rw [z128_sz, u8A_size, HSS.out]) (u8A_one _) ?_; clear HT_))
          ((try simp only [Exit.inBlock, Exit.then]); (apply Cx.atPost); (focus ((repeat (with_reducible (first | exact (H11).toS | exact At.here | apply At.there | apply CxS.drewN | apply CxS.drew | apply CxS.alloc | apply CxS.set | apply CxS.setRow))))); intro HT)
          exact bodyPost_ret (results_ct rfl _ _ (w.heap.size + 1) _ (u8A L) (0, 0) _ rfl (HT.blk (b := w.heap.size + 1) (by repeat (with_reducible (first | exact At.here | apply At.there)))) Try.underlying28 rfl (by rw [u8A_size, HSS.out]; exact info_sector)) rfl ⟨by rw [← HLQ.out]; rfl, HT.nil⟩
theorem laminaref04_Seal.calls (k g n : Int) (A : Option Addr) (m c : Nat) (d : List Int) (w : World) (hr : Kd.C (Kd.int .u8) w A m d) (hd : ∀ x ∈ d, 0 ≤ x ∧ x < 256) (hc : m ≤ c) (S : List Int) (er : Option Int) (hS : (S, er) = sealO k g n d) :
    Calls Try.prog 11 #[.agg #[.int .i64 k, .int .i64 g, .int .i64 n, .slice A m c]] w fun e w' => e = .returned (.tuple #[.agg (u8A S), .int .i64 (errN er)]) ∧ Cx w.heap.size w w' [] := by
  have h : Calls Try.prog 11 #[.agg #[.int .i64 k, .int .i64 g, .int .i64 n, .slice A m c]] w fun e w' => e = .returned (.tuple #[.agg (u8A (sealO k g n d).1), .int .i64 (errN (sealO k g n d).2)]) ∧ Cx w.heap.size w w' [] := by
    by_cases hin : inR k g n = true
    · by_cases hl : d.length ≤ 106
      · exact laminaref04_Seal.good k g n A m c d w hr hd hc hin hl
      · exact laminaref04_Seal.form k g n A m c d w hin hr.1.symm hr.2.1 hl
    · exact laminaref04_Seal.range k g n A m c d w (by simpa using hin)
  rw [← hS] at h
  exact h

/-! ### laminaref03_Reader_Take: function 49 -/
theorem laminaref03_Reader_Take.no (S : Nat → Prop) (q : Nat) (l : List Int) (bad : Bool) (n : Int) (w : World) (hr : Rm w S q l bad) (hn : tkS n l bad = none) :
    Calls Try.prog 49 #[.pointer (some ⟨q, 0, none⟩), .int .i64 n] w fun e w' => e = .returned (.slice none 0 0) ∧ RmTo w w' S q [] true := by
  have hc := tkS_none hn
  clear hn
  obtain ⟨A, c, x⟩ := hr
  have hb := x.str
  have h0 : w.cell? ⟨q, 0, none⟩ = some (.slice A l.length c) := by rw [cell_of hb]; rfl
  have h1 : w.cell? ⟨q, 1, none⟩ = some (.bool bad) := by rw [cell_of hb]; rfl
  have f0 := frozen_of hb 0
  have f1 := frozen_of hb 1
  have hm := x.row.row.2.1
  have hfin : RmTo w ((w.setCell ⟨q, 1, none⟩ (.bool true)).setCell ⟨q, 0, none⟩ (.slice none 0 0)) S q [] true := by
    have e1 := setCell_here hb 1 (.bool true)
    have e2 := setCell_here e1 0 (.slice none 0 0)
    refine ⟨⟨none, 0, e2, by simp, ⟨Kd.C_nil _ _, fun h => absurd h (by simp)⟩, x.ne, fun _ => rfl, by simp⟩, ?_⟩
    exact ((Only.refl w (fun i => i = q)).setCell (p := ⟨q, 1, none⟩) (.inl rfl) _).setCell (p := ⟨q, 0, none⟩) (.inl rfl) _
  have HF := Aside0.mk hfin
  clear hb x hfin
  rcases bad with _ | _
  · rcases hc with hc | hc
    · cases hc
    · by_cases hneg : n < 0
      · clear hc
        go_enter Try.func49, Try.ntmps49
        go_wp2
        go_ret
        exact ⟨rfl, HF.out⟩
      · have hgt : n > (l.length : Int) := by omega
        clear hc
        go_enter Try.func49, Try.ntmps49
        go_wp2
        go_ret
        exact ⟨rfl, HF.out⟩
  · clear hc
    go_enter Try.func49, Try.ntmps49
    go_wp2
    go_ret
    exact ⟨rfl, HF.out⟩
theorem laminaref03_Reader_Take.yes (S : Nat → Prop) (q : Nat) (l : List Int) (bad : Bool) (n : Int) (b r : List Int) (w : World) (hr : Rm w S q l bad) (hn : tkS n l bad = some (b, r)) (hl : l.length < 140737488355328) :
    Calls Try.prog 49 #[.pointer (some ⟨q, 0, none⟩), .int .i64 n] w fun e w' => ∃ v, e = .returned v ∧ Kd.R (Kd.int .u8) 5 w' w.heap.size (fun _ => True) v b ∧ RmTo w w' S q r false := by
  obtain ⟨rfl, hn0, hn1, rfl, rfl⟩ := tkS_some hn
  clear hn
  obtain ⟨m, rfl⟩ := Int.eq_ofNat_of_zero_le hn0
  rw [Int.toNat_natCast]
  have hm : m ≤ l.length := by omega
  obtain ⟨A, c, x⟩ := hr
  have hb := x.str
  have h0 : w.cell? ⟨q, 0, none⟩ = some (.slice A l.length c) := by rw [cell_of hb]; rfl
  have h1 : w.cell? ⟨q, 1, none⟩ = some (.bool false) := by rw [cell_of hb]; rfl
  have f0 := frozen_of hb 0
  have hmx := x.row.row.2.1
  have hlc := x.len
  have hqlt := blk_size hb
  have hlt' : (l.take m).length = m := by rw [List.length_take]; omega
  have hCT : Kd.C (Kd.int .u8) w A m (l.take m) := by have := Kd.C_take (m := m) x.row.row hm; rw [hlt'] at this; exact this
  have X := Aside0.mk x
  have HCT := Aside0.mk hCT
  clear hb x hCT hlt'
  have hn2 : ¬ ((m : Int) < 0) := by omega
  have hn3 : ¬ ((m : Int) > l.length) := by omega
  have hmc : m ≤ c := by omega
  by_cases hcm : c = m
  all_goals
    go_enter Try.func49, Try.ntmps49
    go_wp2_with (((with_reducible refine gate_builtin (b := .append) (xs := #[.tmp 29, .tmp 35]) rfl ?_); at_builtin; refine Kd.R_append_rows (Kd.int .u8) (w0 := w) w.heap.size rfl (.tmp 29) (.tmp 35) 22 5 (.int .u8 0) 1 rfl Try.underlying22 info5 rfl (by decide) (by omega) _ [] (l.take m) _ _ _ (fun _ => True) (fun _ => False) rfl rfl ?aO ?aR (fun _ _ h => h) (fun _ h => h.elim) (fun _ _ => trivial) ?aB ?aS ?aL ?_; (case aO => exact R_empty w w.heap.size (Nat.le_refl _)); (case aR => exact Kd.C_alloc HCT.out _); (case aB => exact below_alloc (Below.refl _ w) _); (case aS => simp); (case aL => (simp; omega)); intro v3 w3 ho hb hg hat; clear hg hat; obtain ⟨A3, c3, rfl, -⟩ := Kd.R_reads ho; have HO3 := Aside0.mk ho; have HB3 := Aside0.mk hb; have h03 := (hb.cell (p := ⟨q, 0, none⟩) hqlt).trans h0; have f03 := (hb.frozen (p := ⟨q, 0, none⟩) hqlt).trans f0; clear ho hb))
    go_ret
  · subst hcm
    have hfin := rm_cut (m := c) (A2 := A) X.out hm (by rw [if_pos rfl]) HB3.out
    rw [Nat.sub_self] at hfin
    refine ⟨.slice A3 c c3, rfl, ?_, hfin⟩
    have hty := HO3.out
    simp only [List.nil_append] at hty
    rw [show (l.take c).length = c by rw [List.length_take]; omega] at hty
    exact Kd.R_set hty ((HB3.out.block q hqlt).trans X.out.str) (by decide) 0 _
  · have hfin := rm_cut (m := m) X.out hm (by rw [if_neg hcm]) HB3.out
    refine ⟨.slice A3 m c3, rfl, ?_, hfin⟩
    have hty := HO3.out
    simp only [List.nil_append] at hty
    rw [show (l.take m).length = m by rw [List.length_take]; omega] at hty
    exact Kd.R_set hty ((HB3.out.block q hqlt).trans X.out.str) (by decide) 0 _

-- AUX XM
/-- The document's reader, of the call's own. -/
def rmR : Repr (List Int × Bool) := ⟨fun w S v x => ∃ (q : Nat) (T : Nat → Prop), v = .pointer (some ⟨q, 0, none⟩) ∧ Rm w T q x.1 x.2 ∧ (∀ i, T i → S i) ∧ S q, fun ⟨q, T, e, x, h1, h2⟩ k hd => ⟨q, T, e, x.only k (fun i hi => hd i (h1 i hi)) (hd q h2), h1, h2⟩⟩
theorem Cx.rm {B : Nat} {w0 w : World} {m r : List Asr} {q : Nat} {x x2 : List Int × Bool} {P : Program} {f : FuncId} {args : Array Value} {v : Value} (H : Cx B w0 w m) (k : At m (.own rmR (.pointer (some ⟨q, 0, none⟩)) x) r)
    (hc : ∀ S : Nat → Prop, (∀ i, S i → i < w.heap.size) → Rm w S q x.1 x.2 → Calls P f args w (fun e w' => e = .returned v ∧ RmTo w w' S q x2.1 x2.2)) : Calls P f args w fun e w' => e = .returned v ∧ Cx B w0 w' (.own rmR (.pointer (some ⟨q, 0, none⟩)) x2 :: r) := by
  obtain ⟨S, ⟨q', T, e, hx, h1, h2⟩, hs, _, hcl⟩ := (H.find k).open_
  simp only [Value.pointer.injEq, Option.some.injEq, Addr.mk.injEq, and_true] at e
  subst e
  refine (hc T (fun i hi => (hs i (h1 i hi)).2) hx).mono ?_
  rintro e w' ⟨rfl, hy⟩
  exact ⟨rfl, hcl w' [.own rmR (.pointer (some ⟨q, 0, none⟩)) x2] ⟨hy.only.os, hy.only.tape, hy.only.output, hy.only.size, fun i hi hn => hy.only.block i hi (fun hp => hn (by subst hp; exact h2))⟩ ⟨S, ⟨q, T, rfl, hy.rm, h1, h2⟩, fun _ h => .inl h, trivial⟩⟩
theorem Cx.rm_new {B : Nat} {w0 w : World} {m r r2 : List Asr} {q n c : Nat} {A : Option Addr} {l : List Int} (H : Cx B w0 w m) (k : At m (.blk q (.cells #[.slice A n c, .bool false] 90 (0, 0))) r) (k2 : At r (.own bytesR (.slice A n c) l) r2) (hb : ∀ x ∈ l, 0 ≤ x ∧ x < 256) :
    Cx B w0 w (.own rmR (.pointer (some ⟨q, 0, none⟩)) (l, false) :: r2) := by
  have h := (H.find k)
  obtain ⟨S, ha, hs, hr⟩ := h.sep
  obtain ⟨T, hb2, ht, hr2⟩ := hr.find k2
  have hR : Kd.R (Kd.int .u8) 5 w 0 T (.slice A n c) l := hb2
  obtain ⟨e1, e2, e3⟩ := Kd.R_reads' hR
  subst e1
  refine ⟨H.bel, H.le, fun i => S i ∨ T i, ⟨q, T, rfl, ⟨A, c, ha.2, e2, Rk.of_R hR, fun h => (ht q h).2 ha.1, (fun h => by cases h), hb⟩, fun _ h => .inr h, .inl ha.1⟩, fun i hi => hi.elim (hs i) (fun h => (ht i h).1), hr2.mono (fun i hi => ⟨hi.1.1, fun h => h.elim hi.1.2 hi.2⟩)⟩

-- AUX topw
/-- A row of bytes as a number. -/
def topN : List Int → Int
  | [] => 0
  | x :: t => x + 256 * topN t
theorem topN_bd (b : List Int) (hb : ∀ x ∈ b, 0 ≤ x ∧ x < 256) : 0 ≤ topN b ∧ topN b < 256 ^ b.length := by
  induction b with
  | nil => simp [topN]
  | cons x t ih =>
    have h1 := hb x (by simp)
    have h2 := ih (fun y hy => hb y (by simp [hy]))
    simp only [topN, List.length_cons, Int.pow_succ]
    generalize (256 : Int) ^ t.length = P at *
    omega
theorem topN_small (b : List Int) (hb : ∀ x ∈ b, 0 ≤ x ∧ x < 256) (j : Nat) (hl : b.length ≤ 8) (hj : 0 < j) : topN (b.drop j) < 72057594037927936 := by
  have h := (topN_bd (b.drop j) (fun x hx => hb x (List.mem_of_mem_drop hx))).2
  have hp : (256 : Int) ^ (b.drop j).length ≤ 256 ^ 7 := by
    have := Nat.pow_le_pow_right (n := 256) (by decide) (show (b.drop j).length ≤ 7 by rw [List.length_drop]; omega)
    have h2 : ((256 ^ (b.drop j).length : Nat) : Int) ≤ ((256 ^ 7 : Nat) : Int) := Int.ofNat_le.2 this
    rw [Int.natCast_pow, Int.natCast_pow] at h2
    exact h2
  have : (256 : Int) ^ 7 = 72057594037927936 := by decide
  omega
theorem topN_step (b : List Int) (j : Nat) (hj : j < b.length) : topN (b.drop j) = 256 * topN (b.drop (j + 1)) + rd b j := by
  rw [List.drop_eq_getElem_cons hj]
  simp only [topN]
  have : rd b (j : Int) = b[j] := by simp [rd, hj]
  rw [this]
  omega
theorem topN_sum (b : List Int) : ∀ k j : Nat, sumN (b.drop j) k = topN ((b.drop j).take k) := by
  intro k
  induction k with
  | zero => intro j; simp [sumN, topN]
  | succ k ih =>
    intro j
    have hs : ∀ (l : List Int) (k : Nat), topN (l.take (k + 1)) = topN (l.take k) + rd l k * 2 ^ (8 * k) := by
      intro l
      induction l with
      | nil => intro k; simp [topN, rd]
      | cons x t iht =>
        intro k
        rcases k with _ | k
        · simp [topN, rd]
        · have := iht k
          simp only [List.take_succ_cons, topN] at this ⊢
          rw [this]
          have e : rd (x :: t) ((k + 1 : Nat) : Int) = rd t k := by simp [rd]
          have e2 : (2 : Int) ^ (8 * (k + 1)) = 256 * 2 ^ (8 * k) := by rw [show 8 * (k + 1) = 8 + 8 * k by omega, Int.pow_add]; rfl
          rw [e, e2, Int.mul_add]
          have : 256 * (rd t k * 2 ^ (8 * k)) = rd t k * (256 * 2 ^ (8 * k)) := by rw [← Int.mul_assoc, ← Int.mul_assoc, Int.mul_comm 256]
          omega
    simp only [sumN]
    rw [ih j, hs]
theorem unL_top (b : List Int) (hl : b.length = 8) : unL b = wrap64 (topN b) := by
  unfold unL
  have := topN_sum b 8 0
  rw [List.drop_zero, List.take_of_length_le (by omega)] at this
  rw [this]
theorem u64_in (x : Int) (h0 : 0 ≤ x) (h1 : x < 18446744073709551616) : IntKind.u64.wrap x = x := IntWalk.u64_in x (by omega)
theorem top_wraps (b : List Int) (hb : ∀ x ∈ b, 0 ≤ x ∧ x < 256) (j : Nat) (hl : b.length ≤ 8) (hj : j < b.length) : IntKind.u64.wrap (256 * topN (b.drop (j + 1))) = 256 * topN (b.drop (j + 1)) ∧ IntKind.u64.wrap (256 * topN (b.drop (j + 1)) + rd b j) = topN (b.drop j) := by
  have h := topN_small b hb (j + 1) hl (by omega)
  have h0 := (topN_bd (b.drop (j + 1)) (fun x hx => hb x (List.mem_of_mem_drop hx))).1
  have hr := rd_bd hb j hj
  refine ⟨u64_in _ (by omega) (by omega), ?_⟩
  rw [topN_step b j hj]
  exact u64_in _ (by omega) (by omega)

/-! ### laminaref03_Reader_Byte: function 44 -/
theorem laminaref03_Reader_Byte.calls (S : Nat → Prop) (q : Nat) (l : List Int) (bad : Bool) (w : World) (hr : Rm w S q l bad) (hl : l.length < 140737488355328) :
    Calls Try.prog 44 #[.pointer (some ⟨q, 0, none⟩)] w fun e w' => e = .returned (.int .u8 (byteS l bad).1) ∧ RmTo w w' S q (byteS l bad).2.1 (byteS l bad).2.2 := by
  rcases htk : tkS 1 l bad with _ | ⟨b, r⟩
  · have hb : byteS l bad = (0, [], true) := by unfold byteS; rw [htk]
    have HT := Aside0.mk (fun W (x : Rm W S q l bad) => laminaref03_Reader_Take.no S q l bad 1 W x htk)
    rw [hb]
    have HR := Aside0.mk hr
    clear htk hb hr
    go_enter Try.func44, Try.ntmps44
    go_wp2_with fail
    refine (HT.out _ HR.out).mono ?_
    rintro e w1 ⟨rfl, hx⟩
    go_wp2
    go_ret
    exact ⟨rfl, hx⟩
  · have hb : byteS l bad = (rd b 0, r, false) := by unfold byteS; rw [htk]
    have HT := Aside0.mk (fun W (x : Rm W S q l bad) => laminaref03_Reader_Take.yes S q l bad 1 b r W x htk hl)
    have hbl : b.length = 1 := by
      obtain ⟨_, q1, q2, rfl, rfl⟩ := tkS_some htk
      rw [List.length_take]; omega
    rw [hb]
    have HR := Aside0.mk hr
    have hb0 : 0 < b.length := by omega
    have hb1 : ((b.length : Int) == 0) = false := by rw [beq_eq_false_iff_ne]; omega
    have hb2 : ¬ b.length = 0 := by omega
    clear htk hb hr hbl
    go_enter Try.func44, Try.ntmps44
    go_wp2_with fail
    refine (HT.out _ HR.out).mono ?_
    rintro e w1 ⟨v, rfl, ho, hx⟩
    have HX := Aside0.mk hx
    obtain ⟨A1, c1, rfl, -⟩ := Kd.R_reads ho
    obtain ⟨ad, e, hc⟩ := C_cells (Kd.R_reads' ho).2.2 hb0
    subst e
    have hc0 : w1.cell? ad = some (.int .u8 (rd b 0)) := by have := hc 0 hb0; rw [add_zero_] at this; exact this
    clear hc hx ho
    go_wp2
    go_ret
    exact ⟨rfl, HX.out⟩

-- AUX XMb
theorem rm_byte {B : Nat} {w0 w : World} {m r : List Asr} {q : Nat} {x : List Int × Bool} (H : Cx B w0 w m) (k : At m (.own rmR (.pointer (some ⟨q, 0, none⟩)) x) r) (hl : x.1.length < 140737488355328) :
    Calls Try.prog 44 #[.pointer (some ⟨q, 0, none⟩)] w fun e w' => e = .returned (.int .u8 (byteS x.1 x.2).1) ∧ Cx B w0 w' (.own rmR (.pointer (some ⟨q, 0, none⟩)) (byteS x.1 x.2).2 :: r) :=
  H.rm k (fun S _ hx => laminaref03_Reader_Byte.calls S q x.1 x.2 w hx hl)

-- AUX rmbad
/-- It is made bad, by hand. -/
theorem rm_bad {w : World} {S : Nat → Prop} {q : Nat} {l : List Int} {bad : Bool} (x : Rm w S q l bad) : (∃ A c, w.cell? ⟨q, 0, none⟩ = some (.slice A l.length c)) ∧ w.cell? ⟨q, 1, none⟩ = some (.bool bad) ∧ w.frozen? ⟨q, 0, none⟩ = false ∧ w.frozen? ⟨q, 1, none⟩ = false ∧
    RmTo w ((w.setCell ⟨q, 1, none⟩ (.bool true)).setCell ⟨q, 0, none⟩ (.slice none 0 0)) S q [] true := by
  obtain ⟨A, c, x⟩ := x
  have hb := x.str
  refine ⟨⟨A, c, by rw [cell_of hb]; rfl⟩, by rw [cell_of hb]; rfl, frozen_of hb 0, frozen_of hb 1, ?_⟩
  have e1 := setCell_here hb 1 (.bool true)
  have e2 := setCell_here e1 0 (.slice none 0 0)
  refine ⟨⟨none, 0, e2, by simp, ⟨Kd.C_nil _ _, fun h => absurd h (by simp)⟩, x.ne, fun _ => rfl, by simp⟩, ?_⟩
  exact ((Only.refl w (fun i => i = q)).setCell (p := ⟨q, 1, none⟩) (.inl rfl) _).setCell (p := ⟨q, 0, none⟩) (.inl rfl) _
theorem byteS_len (l : List Int) (bad : Bool) : (byteS l bad).2.1.length ≤ l.length := by
  unfold byteS
  split
  · rename_i b r h
    obtain ⟨_, _, _, _, rfl⟩ := tkS_some h
    simp
  · simp

/-! ### laminaref03_Reader_Num: function 45 -/
theorem laminaref03_Reader_Num.calls (S : Nat → Prop) (q : Nat) (l : List Int) (bad : Bool) (w : World) (hr : Rm w S q l bad) (hl : l.length < 140737488355328) :
    Calls Try.prog 45 #[.pointer (some ⟨q, 0, none⟩)] w fun e w' => e = .returned (.int .i64 (numS l bad).1) ∧ RmTo w w' S q (numS l bad).2.1 (numS l bad).2.2 := by
  rcases htk : tkS 8 l bad with _ | ⟨b, r⟩
  · have hb : numS l bad = (0, [], true) := by unfold numS; rw [htk]
    have HT := Aside0.mk (fun W (x : Rm W S q l bad) => laminaref03_Reader_Take.no S q l bad 8 W x htk)
    rw [hb]
    have HR := Aside0.mk hr
    clear htk hb hr
    go_enter Try.func45, Try.ntmps45
    go_wp2_with fail
    refine (HT.out _ HR.out).mono ?_
    rintro e w1 ⟨rfl, hx⟩
    have HX := Aside0.mk hx
    clear hx
    go_wp2
    refine wp_loop_rounds 1 ?_
    rw [rounds_succ]
    go_wp2
    go_ret
    exact ⟨rfl, HX.out⟩
  · have hb : numS l bad = (unL b, r, false) := by unfold numS; rw [htk]
    have HT := Aside0.mk (fun W (x : Rm W S q l bad) => laminaref03_Reader_Take.yes S q l bad 8 b r W x htk hl)
    have hbb := hr.byt
    have hbl : b.length = 8 ∧ ∀ x ∈ b, 0 ≤ x ∧ x < 256 := by
      obtain ⟨_, q1, q2, rfl, rfl⟩ := tkS_some htk
      refine ⟨by rw [List.length_take]; omega, fun x hx => hbb x (List.mem_of_mem_take hx)⟩
    rw [hb, unL_top b hbl.1]
    have HBL := Aside0.mk hbl
    have HR := Aside0.mk hr
    have hb0 : b.length ≤ 8 := by omega
    have hb1 : 8 ≤ b.length := by omega
    clear htk hb hr hbl hbb
    go_enter Try.func45, Try.ntmps45
    go_wp2_with fail
    refine (HT.out _ HR.out).mono ?_
    rintro e w1 ⟨v, rfl, ho, hx⟩
    have HX := Aside0.mk hx
    obtain ⟨A1, c1, rfl, -⟩ := Kd.R_reads ho
    obtain ⟨ad, e, hc⟩ := C_cells (Kd.R_reads' ho).2.2 (by omega)
    subst e
    have HC := Aside0.mk hc
    clear hc hx ho
    go_wp2
    go_loop [4, 5] (fun v4 v5 => ∃ k : Nat, k ≤ b.length ∧ v5 = .int .i64 ((k : Int) - 1) ∧ v4 = .int .u64 (topN (b.drop k))) (fun _ v5 => (intOf v5 + 1).toNat)
    case atStart => exact ⟨b.length, by omega, rfl, by rw [List.drop_length]; rfl⟩
    case round =>
      obtain ⟨k, hk, rfl, rfl⟩ := hrel
      by_cases hlt : 0 < k
      · obtain ⟨j, rfl⟩ : ∃ j, k = j + 1 := ⟨k - 1, by omega⟩
        have hx := HC.out j (by omega)
        obtain ⟨q1, q2⟩ := top_wraps b HBL.out.2 j (by omega) (by omega)
        obtain ⟨r0, r1⟩ := rd_bd HBL.out.2 j (by omega)
        have q3 : ((j + 1 : Nat) : Int) - 1 = (j : Int) := by omega
        rw [q3]
        clear q3 hlt
        go_wp2
        exact ⟨⟨j, by omega, rfl, rfl⟩, by simp [intOf]⟩
      · obtain rfl : k = 0 := by omega
        go_wp2
        go_ret
        exact ⟨rfl, HX.out⟩

-- AUX XMn
theorem rm_num {B : Nat} {w0 w : World} {m r : List Asr} {q : Nat} {x : List Int × Bool} (H : Cx B w0 w m) (k : At m (.own rmR (.pointer (some ⟨q, 0, none⟩)) x) r) (hl : x.1.length < 140737488355328) :
    Calls Try.prog 45 #[.pointer (some ⟨q, 0, none⟩)] w fun e w' => e = .returned (.int .i64 (numS x.1 x.2).1) ∧ Cx B w0 w' (.own rmR (.pointer (some ⟨q, 0, none⟩)) (numS x.1 x.2).2 :: r) :=
  H.rm k (fun S _ hx => laminaref03_Reader_Num.calls S q x.1 x.2 w hx hl)

/-! ### laminaref04_Open: function 36 -/
/-- What the document's Open answers. -/
def ROpenTo (s : List Int) (w : World) (e : Ending) (w' : World) : Prop :=
  (openO s = none ∧ e = .returned (.tuple #[.agg #[.int .i64 0, .int .i64 0, .int .i64 0, .slice none 0 0], .bool false]) ∧ Cx w.heap.size w w' []) ∨
  (∃ k g n d v, openO s = some (k, g, n, d) ∧ e = .returned (.tuple #[.agg #[.int .i64 k, .int .i64 g, .int .i64 n, v], .bool true]) ∧ Cx w.heap.size w w' [.own bytesR v d])
set_option maxRecDepth 100000 in
set_option maxHeartbeats 4000000 in
theorem laminaref04_Open.calls (s : List Int) (w : World) (hs : s.length = 128) (hb : ∀ x ∈ s, 0 ≤ x ∧ x < 256) : Calls Try.prog 36 #[.agg (u8A s)] w (ROpenTo s w) := by
  have H0 := Cx.start w
  have hz := zero_sector
  have hal := @alloc_cell
  have HS := Aside0.mk hs
  have HB := Aside0.mk hb
  have E1 := Aside0.mk (show byteS (s.drop 4) false = (oK s, s.drop 5, false) by rw [byteS_yes _ (by rw [List.length_drop]; omega), rd_drop, List.drop_drop]; rfl)
  have E2 := Aside0.mk (show numS (s.drop 5) false = (oG s, s.drop 13, false) by rw [numS_yes _ (by rw [List.length_drop]; omega), List.drop_drop]; rfl)
  have E3 := Aside0.mk (show numS (s.drop 13) false = (oN s, s.drop 21, false) by rw [numS_yes _ (by rw [List.length_drop]; omega), List.drop_drop]; rfl)
  have E4 := Aside0.mk (show byteS (s.drop 21) false = (oS s, s.drop 22, false) by rw [byteS_yes _ (by rw [List.length_drop]; omega), rd_drop, List.drop_drop]; rfl)
  have hS := rd_bds hb 21 (by omega)
  have hK := rd_bds hb 4 (by omega)
  have hS0 : 0 ≤ oS s := hS.1
  have hS1 : oS s < 256 := hS.2
  obtain ⟨z, hz2⟩ : ∃ z : Nat, oS s = (z : Int) := ⟨(oS s).toNat, by omega⟩
  have HZ := Aside0.mk hz2
  rw [hz2] at E4 hS0 hS1
  have hS1 : z < 256 := by omega
  clear hz2 hS0
  have hK0 : 0 ≤ oK s := hK.1
  have hK1 : oK s < 256 := hK.2
  clear hs hb hS hK
  go_enter Try.func36, Try.ntmps36
  go_wp2_with (((with_reducible refine gate_builtin (b := .append) (xs := #[.tmp 9, .tmp 10]) rfl ?_); at_builtin; (apply Cx.atList); (focus ((repeat (with_reducible (first | exact (H0).toS | exact At.here | apply At.there | apply CxS.drewN | apply CxS.drew | apply CxS.alloc | apply CxS.set | apply CxS.setRow))))); intro HT_; have HT_ := HT_.lit0 (by repeat (with_reducible (first | exact At.here | apply At.there))); obtain ⟨ok_, hR_, hF_, hC_⟩ := HT_.grow (d := Kd.int .u8) (e := 5) (v := _) (xs := []) (by repeat (with_reducible (first | exact At.here | apply At.there))); (refine Kd.R_append_rows (Kd.int .u8) (w0 := _) 0 rfl (.tmp 9) (.tmp 10) 22 5 (.int .u8 0) 1 rfl Try.underlying22 info5 rfl (by decide) (by omega) (_) ([]) (s.drop 4) _ _ _ ok_ (fun _ => False) rfl rfl hR_ (C_sec (HT_.blk (b := w.heap.size) (o := .cells (u8A s) 28 (0, 0)) (by repeat (with_reducible (first | exact At.here | apply At.there)))) HS.out 4 124 (by omega) rfl) (fun _ _ h => h) (fun _ h => h.elim) hF_ (Below.refl _ _) (Nat.zero_le _) (by simp) ?_); intro v1 w1_ ho_ hb_ hg_ hat_; have H1 := hC_ _ _ _ ho_ hg_; clear ho_ hb_ hg_ hat_ hC_ hF_ hR_ HT_; obtain ⟨A1, c1, rfl, hc1⟩ := H1.slice (v := v1) (by repeat (with_reducible (first | exact At.here | apply At.there))); rw [List.nil_append] at H1 hc1 ⊢; have hl_1 : (s.drop 4).length = 124 := (by rw [List.length_drop, HS.out]); rw [hl_1] at H1 hc1 ⊢; clear hl_1))
  ((first | apply Cx.genCall | apply Cx.genCode | apply Cx.genList); (focus ((repeat (with_reducible (first | exact (H1).toS | exact At.here | apply At.there | apply CxS.drewN | apply CxS.drew | apply CxS.alloc | apply CxS.set | apply CxS.setRow))))); clear H1; intro w2 H2)
  have H2 := H2.rm_new (by repeat (with_reducible (first | exact At.here | apply At.there))) (by repeat (with_reducible (first | exact At.here | apply At.there))) (fun x hx => HB.out x (List.mem_of_mem_drop hx))
  have hc2 := rm_byte H2 (by repeat (with_reducible (first | exact At.here | apply At.there))) (by simp only [List.length_drop]; rw [HS.out]; omega)
  simp only [E1.out] at hc2
  refine hc2.mono ?_
  rintro e w3 ⟨rfl, H3⟩
  clear hc2 H2
  go_wp2_with fail
  ((first | apply Cx.genCall | apply Cx.genCode | apply Cx.genList); (focus ((repeat (with_reducible (first | exact (H3).toS | exact At.here | apply At.there | apply CxS.drewN | apply CxS.drew | apply CxS.alloc | apply CxS.set | apply CxS.setRow))))); clear H3; intro w4 H4)
  try simp only [List.setIfInBounds_toArray, List.set_cons_zero, List.set_cons_succ] at H4
  have hc2 := rm_num H4 (by repeat (with_reducible (first | exact At.here | apply At.there))) (by simp only [List.length_drop]; rw [HS.out]; omega)
  simp only [E2.out] at hc2
  refine hc2.mono ?_
  rintro e w5 ⟨rfl, H5⟩
  clear hc2 H4
  have F := (H5).facts; simp only [factsOf, Asr.facts, blkFacts, cellsAre, List.toList_toArray, forall_const, Nat.zero_add, Nat.reduceAdd, and_true, true_and] at F
  go_wp2_with fail
  ((first | apply Cx.genCall | apply Cx.genCode | apply Cx.genList); (focus ((repeat (with_reducible (first | exact (H5).toS | exact At.here | apply At.there | apply CxS.drewN | apply CxS.drew | apply CxS.alloc | apply CxS.set | apply CxS.setRow))))); clear H5; intro w6 H6)
  try simp only [List.setIfInBounds_toArray, List.set_cons_zero, List.set_cons_succ] at H6
  clear F
  have hc2 := rm_num H6 (by repeat (with_reducible (first | exact At.here | apply At.there))) (by simp only [List.length_drop]; rw [HS.out]; omega)
  simp only [E3.out] at hc2
  refine hc2.mono ?_
  rintro e w7 ⟨rfl, H7⟩
  clear hc2 H6
  have F := (H7).facts; simp only [factsOf, Asr.facts, blkFacts, cellsAre, List.toList_toArray, forall_const, Nat.zero_add, Nat.reduceAdd, and_true, true_and] at F
  go_wp2_with fail
  ((first | apply Cx.genCall | apply Cx.genCode | apply Cx.genList); (focus ((repeat (with_reducible (first | exact (H7).toS | exact At.here | apply At.there | apply CxS.drewN | apply CxS.drew | apply CxS.alloc | apply CxS.set | apply CxS.setRow))))); clear H7; intro w8 H8)
  try simp only [List.setIfInBounds_toArray, List.set_cons_zero, List.set_cons_succ] at H8
  clear F
  have hc2 := rm_byte H8 (by repeat (with_reducible (first | exact At.here | apply At.there))) (by simp only [List.length_drop]; rw [HS.out]; omega)
  simp only [E4.out] at hc2
  refine hc2.mono ?_
  rintro e w9 ⟨rfl, H9⟩
  clear hc2 H8
  have F := (H9).facts; simp only [factsOf, Asr.facts, blkFacts, cellsAre, List.toList_toArray, forall_const, Nat.zero_add, Nat.reduceAdd, and_true, true_and] at F
  by_cases hbig : z > 106
  · have hbd : decide ((106 : Int) < (z : Int)) = true := decide_eq_true (by omega)
    have HO := Aside0.mk (show openO s = none by unfold openO; rw [if_pos (by rw [HZ.out]; omega)])
    go_wp2
    ((try simp only [Exit.inBlock, Exit.then]); (apply Cx.atPost); (focus ((repeat (with_reducible (first | exact (H9).toS | exact At.here | apply At.there | apply CxS.drewN | apply CxS.drew | apply CxS.alloc | apply CxS.set | apply CxS.setRow))))); intro HT)
    try simp only [List.setIfInBounds_toArray, List.set_cons_zero, List.set_cons_succ] at HT
    exact bodyPost_ret (results_ct rfl _ _ (w.heap.size + 1) _ #[.int .i64 0, .int .i64 0, .int .i64 0, .slice none 0 0] (0, 0) _ rfl (HT.blk (by repeat (with_reducible (first | exact At.here | apply At.there)))) Try.underlying24 rfl (by kernel_rfl)) rfl (Or.inl ⟨HO.out, rfl, HT.nil⟩)
  · have hbd : decide ((106 : Int) < (z : Int)) = false := decide_eq_false (by omega)
    have hle : z ≤ 106 := by omega
    clear hbig
    have HDD := Aside0.mk (show oD s = (s.drop 22).take z by unfold oD; rw [HZ.out, Int.toNat_natCast])
    have HDL := Aside0.mk (show (oD s).length = z by rw [HDD.out, List.length_take, List.length_drop, HS.out]; omega)
    have hsl := fun W => slice_arr (P := Try.prog) W 28 128 5 Try.underlying28 size_u8 w.heap.size 22 (22 + z) 22 (22 + (z : Int)) rfl (by omega) (by omega) (by omega) (by omega)
    have hz22 : 22 + z - 22 = z := by omega
    simp only [hz22, Nat.reduceSub] at hsl
    clear hz22
    have HCC := Aside0.mk (fun (W : World) (hb : W.heap[w.heap.size]? = some (.cells (u8A s) 28 (0, 0))) => C_seg hb HS.out 22 z (by omega))
    rw [← HDD.out] at HCC
    have HDB := Aside0.mk (oD_bd HB.out)
    have HOO := Aside0.mk (show openO s = if sealO (oK s) (oG s) (oN s) (oD s) = (s, none) then some (oK s, oG s, oN s, oD s) else none by unfold openO; rw [if_neg (by rw [HZ.out]; omega)])
    have hSL := sealO_len (oK s) (oG s) (oN s) (oD s)
    have hER := sealO_er (oK s) (oG s) (oN s) (oD s)
    obtain ⟨⟨S1, er⟩, hSO⟩ : ∃ q, q = sealO (oK s) (oG s) (oN s) (oD s) := ⟨_, rfl⟩
    rw [← hSO] at hSL hER
    have HSO := Aside0.mk hSO
    have HSL := Aside0.mk hSL
    have HER := Aside0.mk hER
    rw [← hSO] at HOO
    clear hSO hSL hER HDD
    generalize oD s = d at *
    generalize oK s = k at *
    generalize oG s = g at *
    generalize oN s = n at *
    go_wp2_with (((with_reducible refine gate_builtin (b := .append) (xs := #[.tmp 30, .tmp 33]) rfl ?_); at_builtin; (apply Cx.atList); (focus ((repeat (with_reducible (first | exact (H9).toS | exact At.here | apply At.there | apply CxS.drewN | apply CxS.drew | apply CxS.alloc | apply CxS.set | apply CxS.setRow))))); intro HT_; have HT_ := HT_.lit0 (by repeat (with_reducible (first | exact At.here | apply At.there))); obtain ⟨ok_, hR_, hF_, hC_⟩ := HT_.grow (d := Kd.int .u8) (e := 5) (v := _) (xs := []) (by repeat (with_reducible (first | exact At.here | apply At.there))); (refine Kd.R_append_rows (Kd.int .u8) (w0 := _) 0 rfl (.tmp 30) (.tmp 33) 22 5 (.int .u8 0) 1 rfl Try.underlying22 info5 rfl (by decide) (by omega) (_) ([]) (d) _ _ _ ok_ (fun _ => False) rfl rfl hR_ (HCC.out _ (HT_.blk (b := w.heap.size) (o := .cells (u8A s) 28 (0, 0)) (by repeat (with_reducible (first | exact At.here | apply At.there))))) (fun _ _ h => h) (fun _ h => h.elim) hF_ (Below.refl _ _) (Nat.zero_le _) (by (simp; omega)) ?_); intro v8 w1_ ho_ hb_ hg_ hat_; have H8 := hC_ _ _ _ ho_ hg_; clear ho_ hb_ hg_ hat_ hC_ hF_ hR_ HT_; obtain ⟨A8, c8, rfl, hc8⟩ := H8.slice (v := v8) (by repeat (with_reducible (first | exact At.here | apply At.there))); rw [List.nil_append] at H8 hc8 ⊢; rw [HDL.out] at H8 hc8 ⊢; clear H9 F hsl; have F := (H8).facts; simp only [factsOf, Asr.facts, blkFacts, cellsAre, List.toList_toArray, forall_const, Nat.zero_add, Nat.reduceAdd, and_true, true_and] at F))
    ((first | apply Cx.genCall | apply Cx.genCode | apply Cx.genList); (focus ((repeat (with_reducible (first | exact (H8).toS | exact At.here | apply At.there | apply CxS.drewN | apply CxS.drew | apply CxS.alloc | apply CxS.set | apply CxS.setRow))))); clear H8; intro w9 H9)
    try simp only [List.setIfInBounds_toArray, List.set_cons_zero, List.set_cons_succ] at H9
    clear F
    (with_reducible refine (laminaref04_Seal.calls k g n A8 z c8 d _ (H9.rowN (xs := d) (by repeat (with_reducible (first | exact At.here | apply At.there)))).1 HDB.out hc8 S1 er HSO.out).mono ?_)
    rintro e w10 ⟨rfl, hj⟩
    have H10 := (H9).join hj; simp only [List.cons_append, List.nil_append] at H10
    clear H9 hj
    have hgt := guard_sector
    have her : er = none ∨ er = some 1 ∨ er = some 2 := HER.out
    clear HER
    rcases her with rfl | her
    · by_cases hSs : S1 = s
      · subst hSs
        have heq := fun W => eql_sector S1 S1 HSL.out HSL.out W
        rw [decide_eq_true rfl] at heq
        rw [if_pos rfl] at HOO
        rw [show errN none = 0 from rfl]
        have F := (H10).facts; simp only [factsOf, Asr.facts, blkFacts, cellsAre, List.toList_toArray, forall_const, Nat.zero_add, Nat.reduceAdd, and_true, true_and] at F
        go_wp2_with (first
          | (((with_reducible refine gate_store (t := 28) (x := .tmp 7) (y := .tmp 39) rfl ?_); (apply Cx.atList); (focus ((repeat (with_reducible (first | exact (H10).toS | exact At.here | apply At.there | apply CxS.drewN | apply CxS.drew | apply CxS.alloc | apply CxS.set | apply CxS.setRow))))); intro HT_; refine wpList_store_row rfl 28 (.tmp 7) (.tmp 39) rfl (w10.heap.size) (u8A S1) rfl rfl _ _ (HT_.blk (by repeat (with_reducible (first | exact At.here | apply At.there)))) (by rw [u8A_size, HSL.out]; exact info_sector) (by rw [z128_sz, u8A_size, HSL.out]) (u8A_one _) ?_; clear HT_); clear F; (apply Cx.genList); (focus ((repeat (with_reducible (first | exact (H10).toS | exact At.here | apply At.there | apply CxS.drewN | apply CxS.drew | apply CxS.alloc | apply CxS.set | apply CxS.setRow))))); clear H10; intro w11 H11; have F := (H11).facts; simp only [factsOf, Asr.facts, blkFacts, cellsAre, List.toList_toArray, forall_const, Nat.zero_add, Nat.reduceAdd, and_true, true_and] at F)
          | ((with_reducible refine gate_load (t := 28) (x := .tmp 7) rfl ?_); (apply Cx.atList); (focus ((repeat (with_reducible (first | exact (H11).toS | exact At.here | apply At.there | apply CxS.drewN | apply CxS.drew | apply CxS.alloc | apply CxS.set | apply CxS.setRow))))); intro HT_; refine wpList_load_row_g rfl 28 (.tmp 7) rfl (w10.heap.size) rfl _ (u8A S1) _ _ (HT_.blk (by repeat (with_reducible (first | exact At.here | apply At.there)))) Try.underlying28 rfl (by rw [u8A_size, HSL.out]; exact info_sector) ?_; clear HT_)
          | ((with_reducible refine gate_load (t := 28) (x := .tmp 1) rfl ?_); (apply Cx.atList); (focus ((repeat (with_reducible (first | exact (H11).toS | exact At.here | apply At.there | apply CxS.drewN | apply CxS.drew | apply CxS.alloc | apply CxS.set | apply CxS.setRow))))); intro HT_; refine wpList_load_row_g rfl 28 (.tmp 1) rfl (w.heap.size) rfl _ (u8A S1) _ _ (HT_.blk (by repeat (with_reducible (first | exact At.here | apply At.there)))) Try.underlying28 rfl (by rw [u8A_size, HSL.out]; exact info_sector) ?_; clear HT_))
        ((try simp only [Exit.inBlock, Exit.then]); (apply Cx.atPost); (focus ((repeat (with_reducible (first | exact (H11).toS | exact At.here | apply At.there | apply CxS.drewN | apply CxS.drew | apply CxS.alloc | apply CxS.set | apply CxS.setRow))))); intro HT)
        try simp only [List.setIfInBounds_toArray, List.set_cons_zero, List.set_cons_succ] at HT
        exact bodyPost_ret (results_ct rfl _ _ (w.heap.size + 1) _ #[.int .i64 k, .int .i64 g, .int .i64 n, .slice A8 z c8] (0, 0) _ rfl (HT.blk (by repeat (with_reducible (first | exact At.here | apply At.there)))) Try.underlying24 rfl (by kernel_rfl)) rfl (Or.inr ⟨k, g, n, d, .slice A8 z c8, HOO.out, rfl, HT.head (a := .own bytesR (.slice A8 z c8) d) (by repeat (with_reducible (first | exact At.here | apply At.there)))⟩)
      · have heq := fun W => eql_sector S1 s HSL.out HS.out W
        rw [decide_eq_false hSs] at heq
        rw [if_neg (by simp [hSs])] at HOO
        rw [show errN none = 0 from rfl]
        have F := (H10).facts; simp only [factsOf, Asr.facts, blkFacts, cellsAre, List.toList_toArray, forall_const, Nat.zero_add, Nat.reduceAdd, and_true, true_and] at F
        go_wp2_with (first
          | (((with_reducible refine gate_store (t := 28) (x := .tmp 7) (y := .tmp 39) rfl ?_); (apply Cx.atList); (focus ((repeat (with_reducible (first | exact (H10).toS | exact At.here | apply At.there | apply CxS.drewN | apply CxS.drew | apply CxS.alloc | apply CxS.set | apply CxS.setRow))))); intro HT_; refine wpList_store_row rfl 28 (.tmp 7) (.tmp 39) rfl (w10.heap.size) (u8A S1) rfl rfl _ _ (HT_.blk (by repeat (with_reducible (first | exact At.here | apply At.there)))) (by rw [u8A_size, HSL.out]; exact info_sector) (by rw [z128_sz, u8A_size, HSL.out]) (u8A_one _) ?_; clear HT_); clear F; (apply Cx.genList); (focus ((repeat (with_reducible (first | exact (H10).toS | exact At.here | apply At.there | apply CxS.drewN | apply CxS.drew | apply CxS.alloc | apply CxS.set | apply CxS.setRow))))); clear H10; intro w11 H11; have F := (H11).facts; simp only [factsOf, Asr.facts, blkFacts, cellsAre, List.toList_toArray, forall_const, Nat.zero_add, Nat.reduceAdd, and_true, true_and] at F)
          | ((with_reducible refine gate_load (t := 28) (x := .tmp 7) rfl ?_); (apply Cx.atList); (focus ((repeat (with_reducible (first | exact (H11).toS | exact At.here | apply At.there | apply CxS.drewN | apply CxS.drew | apply CxS.alloc | apply CxS.set | apply CxS.setRow))))); intro HT_; refine wpList_load_row_g rfl 28 (.tmp 7) rfl (w10.heap.size) rfl _ (u8A S1) _ _ (HT_.blk (by repeat (with_reducible (first | exact At.here | apply At.there)))) Try.underlying28 rfl (by rw [u8A_size, HSL.out]; exact info_sector) ?_; clear HT_)
          | ((with_reducible refine gate_load (t := 28) (x := .tmp 1) rfl ?_); (apply Cx.atList); (focus ((repeat (with_reducible (first | exact (H11).toS | exact At.here | apply At.there | apply CxS.drewN | apply CxS.drew | apply CxS.alloc | apply CxS.set | apply CxS.setRow))))); intro HT_; refine wpList_load_row_g rfl 28 (.tmp 1) rfl (w.heap.size) rfl _ (u8A s) _ _ (HT_.blk (by repeat (with_reducible (first | exact At.here | apply At.there)))) Try.underlying28 rfl (by rw [u8A_size, HS.out]; exact info_sector) ?_; clear HT_))
        ((try simp only [Exit.inBlock, Exit.then]); (apply Cx.atPost); (focus ((repeat (with_reducible (first | exact (H11).toS | exact At.here | apply At.there | apply CxS.drewN | apply CxS.drew | apply CxS.alloc | apply CxS.set | apply CxS.setRow))))); intro HT)
        try simp only [List.setIfInBounds_toArray, List.set_cons_zero, List.set_cons_succ] at HT
        exact bodyPost_ret (results_ct rfl _ _ (w.heap.size + 1) _ #[.int .i64 0, .int .i64 0, .int .i64 0, .slice none 0 0] (0, 0) _ rfl (HT.blk (by repeat (with_reducible (first | exact At.here | apply At.there)))) Try.underlying24 rfl (by kernel_rfl)) rfl (Or.inl ⟨HOO.out, rfl, HT.nil⟩)
    · rcases her with rfl | rfl
      all_goals (
        rw [if_neg (by simp)] at HOO
        first | rw [show errN (some 1) = 1 from rfl] | rw [show errN (some 2) = 2 from rfl]
        have F := (H10).facts; simp only [factsOf, Asr.facts, blkFacts, cellsAre, List.toList_toArray, forall_const, Nat.zero_add, Nat.reduceAdd, and_true, true_and] at F
        go_wp2_with (first
          | (((with_reducible refine gate_store (t := 28) (x := .tmp 7) (y := .tmp 39) rfl ?_); (apply Cx.atList); (focus ((repeat (with_reducible (first | exact (H10).toS | exact At.here | apply At.there | apply CxS.drewN | apply CxS.drew | apply CxS.alloc | apply CxS.set | apply CxS.setRow))))); intro HT_; refine wpList_store_row rfl 28 (.tmp 7) (.tmp 39) rfl (w10.heap.size) (u8A S1) rfl rfl _ _ (HT_.blk (by repeat (with_reducible (first | exact At.here | apply At.there)))) (by rw [u8A_size, HSL.out]; exact info_sector) (by rw [z128_sz, u8A_size, HSL.out]) (u8A_one _) ?_; clear HT_); clear F; (apply Cx.genList); (focus ((repeat (with_reducible (first | exact (H10).toS | exact At.here | apply At.there | apply CxS.drewN | apply CxS.drew | apply CxS.alloc | apply CxS.set | apply CxS.setRow))))); clear H10; intro w11 H11; have F := (H11).facts; simp only [factsOf, Asr.facts, blkFacts, cellsAre, List.toList_toArray, forall_const, Nat.zero_add, Nat.reduceAdd, and_true, true_and] at F))
        ((try simp only [Exit.inBlock, Exit.then]); (apply Cx.atPost); (focus ((repeat (with_reducible (first | exact (H11).toS | exact At.here | apply At.there | apply CxS.drewN | apply CxS.drew | apply CxS.alloc | apply CxS.set | apply CxS.setRow))))); intro HT)
        try simp only [List.setIfInBounds_toArray, List.set_cons_zero, List.set_cons_succ] at HT
        exact bodyPost_ret (results_ct rfl _ _ (w.heap.size + 1) _ #[.int .i64 0, .int .i64 0, .int .i64 0, .slice none 0 0] (0, 0) _ rfl (HT.blk (by repeat (with_reducible (first | exact At.here | apply At.there)))) Try.underlying24 rfl (by kernel_rfl)) rfl (Or.inl ⟨HOO.out, rfl, HT.nil⟩))

/-! ### laminaref04_Is: function 37 -/
set_option maxRecDepth 100000 in
set_option maxHeartbeats 4000000 in
theorem laminaref04_Is.calls (s : List Int) (kind gen num : Int) (w : World) (hs : s.length = 128) (hb : ∀ x ∈ s, 0 ≤ x ∧ x < 256) : Calls Try.prog 37 #[.agg (u8A s), .int .i64 kind, .int .i64 gen, .int .i64 num] w (IsTo s kind gen num w) := by
  have H0 := Cx.start w
  have HS := Aside0.mk hs
  have HB := Aside0.mk hb
  have hu := u8A_size s
  rw [hs] at hu
  have HU := Aside0.mk hu
  clear hs hb hu
  go_enter Try.func37, Try.ntmps37
  go_wp2_with (first
    | ((with_reducible refine gate_load (t := 28) (x := .tmp 4) rfl ?_); (apply Cx.atList); (focus ((repeat (with_reducible (first | exact (H0).toS | exact At.here | apply At.there | apply CxS.drewN | apply CxS.drew | apply CxS.alloc | apply CxS.set | apply CxS.setRow))))); intro HT_; refine wpList_load_row rfl 28 (.tmp 4) rfl (w.heap.size) rfl _ (u8A s) _ _ (HT_.blk (by repeat (with_reducible (first | exact At.here | apply At.there)))) Try.underlying28 rfl (by rw [HU.out]; exact info_sector) ?_; clear HT_))
  ((first | apply Cx.genCall | apply Cx.genCode | apply Cx.genList); (focus ((repeat (with_reducible (first | exact (H0).toS | exact At.here | apply At.there | apply CxS.drewN | apply CxS.drew | apply CxS.alloc | apply CxS.set | apply CxS.setRow))))); clear H0; intro w1 H1)
  refine (laminaref04_Open.calls s _ HS.out HB.out).mono ?_
  rintro e w2 h
  rcases h with ⟨hO, rfl, hj⟩ | ⟨k, g, n, d, v, hO, rfl, hj⟩
  · have H2 := (H1).join hj; simp only [List.cons_append, List.nil_append] at H2
    have HO := Aside0.mk (show isO s kind gen num = none by unfold isO; rw [hO])
    clear hO hj H1
    go_wp2
    ((try simp only [Exit.inBlock, Exit.then]); (apply Cx.atPost); (focus ((repeat (with_reducible (first | exact (H2).toS | exact At.here | apply At.there | apply CxS.drewN | apply CxS.drew | apply CxS.alloc | apply CxS.set | apply CxS.setRow))))); intro HT)
    go_ret2
    exact Or.inl ⟨HO.out, rfl, HT.nil⟩
  · have H2 := (H1).join hj; simp only [List.cons_append, List.nil_append] at H2
    have HO := Aside0.mk (show isO s kind gen num = if k = kind ∧ g = gen ∧ n = num then some d else none by unfold isO; rw [hO])
    clear hO hj H1
    obtain ⟨A, c, rfl, hc⟩ := H2.slice (by repeat (with_reducible (first | exact At.here | apply At.there)))
    by_cases hk : k = kind
    · subst hk
      by_cases hg : g = gen
      · subst hg
        by_cases hn : n = num
        · subst hn
          rw [if_pos ⟨rfl, rfl, rfl⟩] at HO
          go_wp2
          ((try simp only [Exit.inBlock, Exit.then]); (apply Cx.atPost); (focus ((repeat (with_reducible (first | exact (H2).toS | exact At.here | apply At.there | apply CxS.drewN | apply CxS.drew | apply CxS.alloc | apply CxS.set | apply CxS.setRow))))); intro HT)
          go_ret2
          exact Or.inr ⟨d, _, HO.out, rfl, HT.head (a := .own bytesR (.slice A d.length c) d) (by repeat (with_reducible (first | exact At.here | apply At.there)))⟩
        · have h1 : (n == num) = false := beq_eq_false_iff_ne.2 hn
          have h2 : (n != num) = true := bne_iff_ne.2 hn
          rw [if_neg (fun h => hn h.2.2)] at HO
          go_wp2
          ((try simp only [Exit.inBlock, Exit.then]); (apply Cx.atPost); (focus ((repeat (with_reducible (first | exact (H2).toS | exact At.here | apply At.there | apply CxS.drewN | apply CxS.drew | apply CxS.alloc | apply CxS.set | apply CxS.setRow))))); intro HT)
          go_ret2
          exact Or.inl ⟨HO.out, rfl, HT.nil⟩
      · have h1 : (g == gen) = false := beq_eq_false_iff_ne.2 hg
        have h2 : (g != gen) = true := bne_iff_ne.2 hg
        rw [if_neg (fun h => hg h.2.1)] at HO
        go_wp2
        ((try simp only [Exit.inBlock, Exit.then]); (apply Cx.atPost); (focus ((repeat (with_reducible (first | exact (H2).toS | exact At.here | apply At.there | apply CxS.drewN | apply CxS.drew | apply CxS.alloc | apply CxS.set | apply CxS.setRow))))); intro HT)
        go_ret2
        exact Or.inl ⟨HO.out, rfl, HT.nil⟩
    · have h1 : (k == kind) = false := beq_eq_false_iff_ne.2 hk
      have h2 : (k != kind) = true := bne_iff_ne.2 hk
      rw [if_neg (fun h => hk h.1)] at HO
      go_wp2
      ((try simp only [Exit.inBlock, Exit.then]); (apply Cx.atPost); (focus ((repeat (with_reducible (first | exact (H2).toS | exact At.here | apply At.there | apply CxS.drewN | apply CxS.drew | apply CxS.alloc | apply CxS.set | apply CxS.setRow))))); intro HT)
      go_ret2
      exact Or.inl ⟨HO.out, rfl, HT.nil⟩

-- AUX boxP
theorem cons_at (x : Int) (l : List Int) : rd (x :: l) 0 = x := rfl
theorem sec_eq (k g n : Int) (d : List Int) : secL k g n d = sumB (sumI [padL k g n d]) ++ ([k] ++ (numL g ++ (numL n ++ ([(d.length : Int)] ++ (d ++ List.replicate (106 - d.length) 0))))) := by
  have h : padL k g n d = [k] ++ (numL g ++ (numL n ++ ([(d.length : Int)] ++ (d ++ List.replicate (106 - d.length) 0)))) := by
    unfold padL bodyL
    simp only [List.append_assoc]
  exact congrArg (fun q => sumB (sumI [padL k g n d]) ++ q) h
theorem drop_at (a b : List Int) (k : Nat) (h : a.length = k) : (a ++ b).drop k = b := by rw [← h, List.drop_left]
theorem take_at (a b : List Int) (k : Nat) (h : a.length = k) : (a ++ b).take k = a := by rw [← h, List.take_left]
theorem sec_d4 (k g n : Int) (d : List Int) : (secL k g n d).drop 4 = [k] ++ (numL g ++ (numL n ++ ([(d.length : Int)] ++ (d ++ List.replicate (106 - d.length) 0)))) := by
  rw [sec_eq, drop_at _ _ 4 (sumB_len _)]
theorem sec_d5 (k g n : Int) (d : List Int) : (secL k g n d).drop 5 = numL g ++ (numL n ++ ([(d.length : Int)] ++ (d ++ List.replicate (106 - d.length) 0))) := by
  rw [show 5 = 4 + 1 from rfl, ← List.drop_drop, sec_d4, drop_at _ _ 1 rfl]
theorem sec_d13 (k g n : Int) (d : List Int) : (secL k g n d).drop 13 = numL n ++ ([(d.length : Int)] ++ (d ++ List.replicate (106 - d.length) 0)) := by
  rw [show 13 = 5 + 8 from rfl, ← List.drop_drop, sec_d5, drop_at _ _ 8 (numL_len _)]
theorem sec_d21 (k g n : Int) (d : List Int) : (secL k g n d).drop 21 = [(d.length : Int)] ++ (d ++ List.replicate (106 - d.length) 0) := by
  rw [show 21 = 13 + 8 from rfl, ← List.drop_drop, sec_d13, drop_at _ _ 8 (numL_len _)]
theorem sec_d22 (k g n : Int) (d : List Int) : (secL k g n d).drop 22 = d ++ List.replicate (106 - d.length) 0 := by
  rw [show 22 = 21 + 1 from rfl, ← List.drop_drop, sec_d21, drop_at _ _ 1 rfl]
theorem sec_k (k g n : Int) (d : List Int) : oK (secL k g n d) = k := by
  unfold oK
  rw [show ((4 : Int)) = ((4 : Nat) : Int) from rfl, ← rd_drop, sec_d4]
  rfl
theorem sec_s (k g n : Int) (d : List Int) : oS (secL k g n d) = d.length := by
  unfold oS
  rw [show ((21 : Int)) = ((21 : Nat) : Int) from rfl, ← rd_drop, sec_d21]
  rfl
theorem inR_bd {k g n : Int} (h : inR k g n = true) : (1 ≤ k ∧ k ≤ 255) ∧ (0 ≤ g ∧ g ≤ 4611686018427387904) ∧ (0 ≤ n ∧ n ≤ 2147483647) := by
  unfold inR at h
  simp only [Bool.and_eq_true, decide_eq_true_eq] at h
  exact ⟨h.1.1, h.1.2, h.2⟩
/-- A box's sector is opened. -/
theorem open_sec (k g n : Int) (d : List Int) (hin : inR k g n = true) (hl : d.length ≤ 106) : openO (secL k g n d) = some (k, g, n, d) := by
  obtain ⟨hk, hg, hn⟩ := inR_bd hin
  have eG : oG (secL k g n d) = g := by
    unfold oG
    rw [sec_d5, take_at _ _ 8 (numL_len _), unL_num g (by omega) (by omega)]
  have eN : oN (secL k g n d) = n := by
    unfold oN
    rw [sec_d13, take_at _ _ 8 (numL_len _), unL_num n (by omega) (by omega)]
  have eD : oD (secL k g n d) = d := by
    unfold oD
    rw [sec_d22, sec_s, Int.toNat_natCast, take_at _ _ _ rfl]
  unfold openO
  rw [sec_s, sec_k, eG, eN, eD, if_neg (by omega)]
  have : sealO k g n d = (secL k g n d, none) := by unfold sealO; rw [hin, if_pos rfl, if_pos hl]
  rw [this, if_pos rfl]
theorem is_sec (k g n : Int) (d : List Int) (hin : inR k g n = true) (hl : d.length ≤ 106) : isO (secL k g n d) k g n = some d := by
  unfold isO
  rw [open_sec k g n d hin hl]
  simp
/-- A seal that is none's error. -/
theorem seal_none {k g n : Int} {d S : List Int} (h : sealO k g n d = (S, none)) : inR k g n = true ∧ d.length ≤ 106 ∧ S = secL k g n d := by
  unfold sealO at h
  split at h
  · rename_i h1
    split at h
    · rename_i h2
      injection h with h3 h4
      exact ⟨h1, h2, h3.symm⟩
    · injection h with _ h4; cases h4
  · injection h with _ h4; cases h4
theorem seal_bad {k g n : Int} {d S : List Int} {c : Int} (h : sealO k g n d = (S, some c)) : S = z128 := by
  unfold sealO at h
  split at h
  · split at h
    · injection h with _ h4; cases h4
    · injection h with h3 _; exact h3.symm
  · injection h with h3 _; exact h3.symm
theorem sumB_inj {s t : Int} (h0 : 0 ≤ s) (h1 : s < 4294967296) (k0 : 0 ≤ t) (k1 : t < 4294967296) (h : sumB s = sumB t) : s = t := by
  have e : [s / 2 ^ (8 * 0) % 256, s / 2 ^ (8 * 1) % 256, s / 2 ^ (8 * 2) % 256, s / 2 ^ (8 * 3) % 256] = [t / 2 ^ (8 * 0) % 256, t / 2 ^ (8 * 1) % 256, t / 2 ^ (8 * 2) % 256, t / 2 ^ (8 * 3) % 256] := h
  simp only [List.cons.injEq, and_true] at e
  obtain ⟨e0, e1, e2, e3⟩ := e
  simp only [Nat.mul_zero, Nat.mul_one, Nat.reduceMul, Int.reducePow, Int.pow_zero, Int.ediv_one] at e0 e1 e2 e3
  omega
theorem sum_inj_at (a b : List Int) (x y : Int) (ha : IsBytes a) (hb : IsBytes b) (hx : 0 ≤ x ∧ x < 256) (hy : 0 ≤ y ∧ y < 256) (h : sumI [a ++ x :: b] = sumI [a ++ y :: b]) : x = y := by
  have hax : IsBytes (a ++ x :: b) := fun z hz => by
    rcases List.mem_append.1 hz with h | h
    · exact ha z h
    · rcases List.mem_cons.1 h with h | h
      · subst h; exact hx
      · exact hb z h
  have hay : IsBytes (a ++ y :: b) := fun z hz => by
    rcases List.mem_append.1 hz with h | h
    · exact ha z h
    · rcases List.mem_cons.1 h with h | h
      · subst h; exact hy
      · exact hb z h
  rw [sum1_b _ hax, sum1_b _ hay] at h
  have h1 := xor_cancel _ _ _ (bv_inj _ _ h)
  have e1 : bvs (a ++ x :: b) = bvs a ++ (BitVec.ofInt 32 x :: bvs b) := by simp [bvs]
  have e2 : bvs (a ++ y :: b) = bvs a ++ (BitVec.ofInt 32 y :: bvs b) := by simp [bvs]
  rw [e1, e2, regB_append, regB_append] at h1
  have h2 : stepsB 8 (regB ones (bvs a) ^^^ BitVec.ofInt 32 x) = stepsB 8 (regB ones (bvs a) ^^^ BitVec.ofInt 32 y) := regB_inj _ _ _ h1
  have h3 := xor_cancel _ _ _ (stepsB_inj 8 _ _ h2)
  have h4 : (((BitVec.ofInt 32 x).toNat : Nat) : Int) = (((BitVec.ofInt 32 y).toNat : Nat) : Int) := by rw [h3]
  rw [bv_toNat x (by omega) (by omega), bv_toNat y (by omega) (by omega)] at h4
  exact h4
theorem secL_bd (k g n : Int) (d : List Int) (hk : 0 ≤ k ∧ k < 256) (hd : ∀ x ∈ d, 0 ≤ x ∧ x < 256) (hl : d.length ≤ 106) : ∀ x ∈ secL k g n d, 0 ≤ x ∧ x < 256 := by
  intro x hx
  unfold secL at hx
  rcases List.mem_append.1 hx with h | h
  · simp only [sumB, List.mem_map] at h
    obtain ⟨i, _, rfl⟩ := h
    omega
  · exact padL_bd k g n d hk hd hl x h
theorem set_at (l : List Int) (i : Nat) (y : Int) (h : i < l.length) : l = l.take i ++ l[i] :: l.drop (i + 1) ∧ l.set i y = l.take i ++ y :: l.drop (i + 1) := by
  constructor
  · rw [← List.drop_eq_getElem_cons h, List.take_append_drop]
  · rw [List.set_eq_take_append_cons_drop, if_pos h]
/-- A sector with one byte changed is no box's. -/
theorem open_turned {k g n : Int} {d : List Int} (hin : inR k g n = true) (hl : d.length ≤ 106) (hd : ∀ x ∈ d, 0 ≤ x ∧ x < 256) (i : Nat) (hi : i < 128) (y : Int) (hy : 0 ≤ y ∧ y < 256) (hne : y ≠ rd (secL k g n d) i) :
    openO ((secL k g n d).set i y) = none := by
  rcases ho : openO ((secL k g n d).set i y) with _ | ⟨k', g', n', d'⟩
  · rfl
  exfalso
  have hk := (inR_bd hin).1
  have hSL := secL_len k g n d hl
  have hSB := secL_bd k g n d ⟨by omega, by omega⟩ hd hl
  obtain ⟨T, hT⟩ : ∃ T, T = (secL k g n d).set i y := ⟨_, rfl⟩
  rw [← hT] at ho
  have hTB : ∀ x ∈ T, 0 ≤ x ∧ x < 256 := fun x hx => by
    rw [hT] at hx
    rcases List.mem_or_eq_of_mem_set hx with h | h
    · exact hSB x h
    · subst h; exact hy
  have hTL : T.length = 128 := by rw [hT, List.length_set]; exact hSL
  have hseal : ∃ k' g' n' d', sealO k' g' n' d' = (T, none) ∧ (∀ x ∈ d', 0 ≤ x ∧ x < 256) := by
    unfold openO at ho
    split at ho
    · cases ho
    · split at ho
      · rename_i h; exact ⟨_, _, _, _, h, oD_bd hTB⟩
      · cases ho
  clear ho
  obtain ⟨k', g', n', d', hs, hd'⟩ := hseal
  obtain ⟨hin', hl', hTs⟩ := seal_none hs
  have hk' := (inR_bd hin').1
  have hp := padL_len k g n d hl
  have hp' := padL_len k' g' n' d' hl'
  have hpb := padL_bd k g n d ⟨by omega, by omega⟩ hd hl
  have hpb' := padL_bd k' g' n' d' ⟨by omega, by omega⟩ hd' hl'
  have es : secL k g n d = sumB (sumI [padL k g n d]) ++ padL k g n d := rfl
  have et : T = sumB (sumI [padL k' g' n' d']) ++ padL k' g' n' d' := hTs
  have hsb := sumI_bd [padL k g n d] 0 (by decide) (by decide) (fun l hl x hx => by rw [List.mem_singleton] at hl; subst hl; exact hpb x hx)
  have hsb' := sumI_bd [padL k' g' n' d'] 0 (by decide) (by decide) (fun l hl x hx => by rw [List.mem_singleton] at hl; subst hl; exact hpb' x hx)
  generalize padL k g n d = p at *
  generalize padL k' g' n' d' = p' at *
  rw [es] at hT hne
  clear hTs hs
  by_cases h4 : i < 4
  · rw [List.set_append_left _ _ (by rw [sumB_len]; exact h4), et] at hT
    have hlen : (sumB (sumI [p'])).length = ((sumB (sumI [p])).set i y).length := by rw [List.length_set, sumB_len, sumB_len]
    have hpp := (List.append_inj hT hlen).2
    have hss := (List.append_inj hT hlen).1
    subst hpp
    have h1 : ((sumB (sumI [p'])).set i y)[i]? = (sumB (sumI [p']))[i]? := by rw [← hss]
    rw [List.getElem?_set_self (by rw [sumB_len]; exact h4)] at h1
    apply hne
    simp only [rd, Int.toNat_natCast, List.getD_eq_getElem?_getD]
    rw [List.getElem?_append_left (by rw [sumB_len]; exact h4), ← h1]
    rfl
  · rw [List.set_append_right _ _ (by rw [sumB_len]; omega), sumB_len, et] at hT
    have hlen : (sumB (sumI [p'])).length = (sumB (sumI [p])).length := by rw [sumB_len, sumB_len]
    have hpp := (List.append_inj hT hlen).2
    have hss := sumB_inj hsb'.1 hsb'.2 hsb.1 hsb.2 (List.append_inj hT hlen).1
    rw [hpp] at hss
    obtain ⟨e1, e2⟩ := set_at p (i - 4) y (by omega)
    have hx := hpb _ (List.getElem_mem (show i - 4 < p.length by omega))
    rw [e2] at hss
    have hss2 : sumI [p.take (i - 4) ++ y :: p.drop (i - 4 + 1)] = sumI [p.take (i - 4) ++ p[i - 4] :: p.drop (i - 4 + 1)] := by
      exact (show sumI [p.take (i - 4) ++ y :: p.drop (i - 4 + 1)] = sumI [p] from hss).trans (congrArg (fun q => sumI [q]) e1)
    have hyx := sum_inj_at _ _ _ _ (fun z hz => hpb z (List.mem_of_mem_take hz)) (fun z hz => hpb z (List.mem_of_mem_drop hz)) hy hx hss2
    apply hne
    rw [rd_pad _ _ _ (by omega), hyx]
    simp [rd, show i - 4 < p.length by omega]

/-! ### laminalaw04_alive: function 8 -/
theorem sec_rd (k g n : Int) (d : List Int) (i : Nat) (hi : 4 ≤ i) : rd (secL k g n d) i = rd (padL k g n d) (i - 4 : Nat) := rd_pad _ _ i hi
theorem open_zero : openO z128 = none := by
  have e : oS z128 = 0 := rfl
  unfold openO
  rw [e, if_neg (by decide), if_neg]
  intro h
  have : (sealO (oK z128) (oG z128) (oN z128) (oD z128)).2 = some 1 := by
    have : inR (oK z128) (oG z128) (oN z128) = false := rfl
    unfold sealO
    rw [this]
    rfl
  rw [h] at this
  cases this
theorem z128_bd : ∀ x ∈ z128, 0 ≤ x ∧ x < 256 := fun x hx => by
  unfold z128 at hx
  rw [List.mem_replicate] at hx
  omega
set_option maxRecDepth 100000 in
set_option maxHeartbeats 4000000 in
theorem laminalaw04_alive.calls (w : World) : Calls Try.prog 8 #[] w fun e w' => e = .returned (.bool true) ∧ Cx w.heap.size w w' [] := by
  have H0 := Cx.start w
  have hz := zero_sector
  have hal := @alloc_cell
  have kc := const_bytes
  obtain ⟨S, hS⟩ : ∃ S, S = secL 1 2 3 [104, 105] := ⟨_, rfl⟩
  have HSO := Aside0.mk (show (S, none) = sealO 1 2 3 [104, 105] by rw [hS]; rfl)
  have HSL := Aside0.mk (show S.length = 128 by rw [hS]; exact secL_len 1 2 3 _ (by decide))
  have HSB := Aside0.mk (show ∀ x ∈ S, 0 ≤ x ∧ x < 256 by rw [hS]; exact secL_bd 1 2 3 _ (by decide) (by decide) (by decide))
  have HIS := Aside0.mk (show isO S 1 2 3 = some [104, 105] by rw [hS]; exact is_sec 1 2 3 _ (by decide) (by decide))
  have R4 := Aside0.mk (show rd S (4 : Nat) = 1 by rw [hS, sec_rd _ _ _ _ _ (by omega)]; decide)
  have R5 := Aside0.mk (show rd S (5 : Nat) = 2 by rw [hS, sec_rd _ _ _ _ _ (by omega)]; decide)
  have R13 := Aside0.mk (show rd S (13 : Nat) = 3 by rw [hS, sec_rd _ _ _ _ _ (by omega)]; decide)
  have R21 := Aside0.mk (show rd S (21 : Nat) = 2 by rw [hS, sec_rd _ _ _ _ _ (by omega)]; decide)
  have R22 := Aside0.mk (show rd S (22 : Nat) = 104 by rw [hS, sec_rd _ _ _ _ _ (by omega)]; decide)
  clear hS
  go_enter Try.func8, Try.ntmps8
  go_wp2_with fail
  (apply Cx.atCall; (focus ((repeat (with_reducible (first | exact (H0).toS | exact At.here | apply At.there | apply CxS.drewN | apply CxS.drew | apply CxS.alloc | apply CxS.set | apply CxS.setRow))))); intro HT)
  (with_reducible refine (seal_n 1 2 3 _ 2 2 [104, 105] _ (C_lit w [104, 105] (by simp) (2, 3)) (by decide) (by decide) S none HSO.out).mono ?_)
  rintro e w1 ⟨rfl, hj⟩
  have H1 := (HT.join hj).nil
  clear HT hj H0
  rw [errW_none]
  go_wp2_with (first
    | (((with_reducible refine gate_store (t := 28) (x := .tmp 1) (y := .tmp 12) rfl ?_); (apply Cx.atList); (focus ((repeat (with_reducible (first | exact (H1).toS | exact At.here | apply At.there | apply CxS.drewN | apply CxS.drew | apply CxS.alloc | apply CxS.set | apply CxS.setRow))))); intro HT_; refine wpList_store_row rfl 28 (.tmp 1) (.tmp 12) rfl (w1.heap.size) (u8A S) rfl rfl _ _ (HT_.blk (by repeat (with_reducible (first | exact At.here | apply At.there)))) (by rw [u8A_size, HSL.out]; exact info_sector) (by rw [z128_sz, u8A_size, HSL.out]) (u8A_one _) ?_; clear HT_); (apply Cx.genList); (focus ((repeat (with_reducible (first | exact (H1).toS | exact At.here | apply At.there | apply CxS.drewN | apply CxS.drew | apply CxS.alloc | apply CxS.set | apply CxS.setRow))))); clear H1; intro w2 H2; have hb2 := H2.blk (b := w1.heap.size) (by repeat (with_reducible (first | exact At.here | apply At.there))); have c4 := (blk_cell hb2 4).trans (u8A_at S 4 (by rw [HSL.out]; omega)); have c5 := (blk_cell hb2 5).trans (u8A_at S 5 (by rw [HSL.out]; omega)); have c13 := (blk_cell hb2 13).trans (u8A_at S 13 (by rw [HSL.out]; omega)); have c21 := (blk_cell hb2 21).trans (u8A_at S 21 (by rw [HSL.out]; omega)); have c22 := (blk_cell hb2 22).trans (u8A_at S 22 (by rw [HSL.out]; omega)); rw [R4.out] at c4; rw [R5.out] at c5; rw [R13.out] at c13; rw [R21.out] at c21; rw [R22.out] at c22; clear hb2))
  clear c4 c5 c13 c21 c22 kc
  refine (box_Open.calls z128 _ (by decide) z128_bd).mono ?_
  rintro e w3 h
  rcases h with ⟨hO, rfl, hj⟩ | ⟨k, g, n, d, v, hO, rfl, hj⟩
  case inr => rw [open_zero] at hO; cases hO
  have H3 := (H2).join hj; simp only [List.cons_append, List.nil_append] at H3
  clear hO hj H2
  rw [errW_some]
  go_wp2_with (((with_reducible refine gate_load (t := 28) (x := .tmp 1) rfl ?_); (apply Cx.atList); (focus ((repeat (with_reducible (first | exact (H3).toS | exact At.here | apply At.there | apply CxS.drewN | apply CxS.drew | apply CxS.alloc | apply CxS.set | apply CxS.setRow))))); intro HT_; refine wpList_load_row rfl 28 (.tmp 1) rfl (w1.heap.size) rfl _ (u8A S) _ _ (HT_.blk (by repeat (with_reducible (first | exact At.here | apply At.there)))) Try.underlying28 rfl (by rw [u8A_size, HSL.out]; exact info_sector) ?_; clear HT_))
  ((first | apply Cx.genCall | apply Cx.genCode | apply Cx.genList); (focus ((repeat (with_reducible (first | exact (H3).toS | exact At.here | apply At.there | apply CxS.drewN | apply CxS.drew | apply CxS.alloc | apply CxS.set | apply CxS.setRow))))); clear H3; intro w4 H4)
  refine (box_Is.calls S 1 2 3 _ HSL.out HSB.out).mono ?_
  rintro e w5 h
  rcases h with ⟨hO, rfl, hj⟩ | ⟨d, v, hO, rfl, hj⟩
  case inl => rw [HIS.out] at hO; cases hO
  have H5 := (H4).join hj; simp only [List.cons_append, List.nil_append] at H5
  rw [HIS.out] at hO
  obtain rfl := Option.some.inj hO
  clear hO hj H4
  obtain ⟨A, c, rfl, hc⟩ := H5.slice (v := v) (by repeat (with_reducible (first | exact At.here | apply At.there)))
  go_wp2_with fail
  have his := laminanum_Is.calls (some 11) 11 true w5 rfl
  rw [errW_some] at his
  refine his.mono ?_
  rintro e w6 ⟨rfl, hdr⟩
  have H6 := H5.below hdr.below
  clear his hdr H5
  have hcv := Kd.C_string (P := Try.prog) (A := A) (c := c) Try.underlying22 Try.underlying5 Try.underlying9 (H6.row (xs := [104, 105]) (by repeat (with_reducible (first | exact At.here | apply At.there)))).2.2
  have hs2 : strOfNums [104, 105] = (⟨#[104, 105]⟩ : ByteArray) := rfl
  rw [hs2] at hcv
  simp only [List.length_cons, List.length_nil, Nat.zero_add, Nat.reduceAdd] at hcv
  clear hs2
  go_wp2
  ((try simp only [Exit.inBlock, Exit.then]); (apply Cx.atPost); (focus ((repeat (with_reducible (first | exact (H6).toS | exact At.here | apply At.there | apply CxS.drewN | apply CxS.drew | apply CxS.alloc | apply CxS.set | apply CxS.setRow))))); intro HT)
  go_ret
  exact ⟨by first | rfl | simp, HT.nil⟩

/-! ### laminanum_Same: function 16 -/
def laminanum_Same.f (l0 : List Int) (l1 : List Int) : Option (Bool) := some ((strOfNums l0).toList == (strOfNums l1).toList)
set_option maxHeartbeats 8000000 in
set_option maxRecDepth 100000 in
theorem laminanum_Same.calls (A0 : Option Addr) (c0 : Nat) (l0 : List Int) (A1 : Option Addr) (c1 : Nat) (l1 : List Int) (r : Bool) (w : World) (hr0 : Kd.C (Kd.int .u8) w A0 l0.length l0) (hc0 : l0.length ≤ c0) (hr1 : Kd.C (Kd.int .u8) w A1 l1.length l1) (hc1 : l1.length ≤ c1) (h : laminanum_Same.f l0 l1 = some r) :
    Calls Try.prog 16 #[.slice A0 l0.length c0, .slice A1 l1.length c1] w fun e w' => e = .returned (.bool r) ∧ Drawn0 w w' := by
  have HR0 := Aside0.mk hr0
  have HC0 := Aside0.mk hc0
  clear hr0 hc0
  have HR1 := Aside0.mk hr1
  have HC1 := Aside0.mk hc1
  clear hr1 hc1
  have H : (some ((strOfNums l0).toList == (strOfNums l1).toList)) = some r := h
  clear h
  obtain rfl := Option.some.inj H
  have hcv3 := Kd.C_string (P := Try.prog) (A := A0) (c := c0) Try.underlying22 Try.underlying5 Try.underlying9 HR0.out
  have hcv4 := Kd.C_string (P := Try.prog) (A := A1) (c := c1) Try.underlying22 Try.underlying5 Try.underlying9 HR1.out
  go_enter Try.func16, Try.ntmps16
  go_wp2
  go_ret
  exact ⟨by first | rfl | (simp; done) | (simp [*]; done), by repeat (first | exact Drawn0.refl _ | apply Drawn0.step)⟩

-- AUX same4
theorem str_inj {a b : List Int} (ha : ∀ x ∈ a, 0 ≤ x ∧ x < 256) (hb : ∀ x ∈ b, 0 ≤ x ∧ x < 256) (h : strOfNums a = strOfNums b) : a = b := by
  have hd : ∀ l : List Int, (∀ x ∈ l, 0 ≤ x ∧ x < 256) → (strOfNums l).data.toList.map (fun c : UInt8 => (c.toNat : Int)) = l := by
    intro l hl
    rw [strOfNums_data]
    induction l with
    | nil => rfl
    | cons x l ih =>
      have hx := hl x (List.mem_cons_self ..)
      simp only [List.map_cons]
      rw [ih (fun y hy => hl y (List.mem_cons_of_mem _ hy))]
      congr 1
      rw [UInt8.toNat_ofNat']
      omega
  rw [← hd a ha, ← hd b hb, h]
theorem same_eq (a b : List Int) (ha : ∀ x ∈ a, 0 ≤ x ∧ x < 256) (hb : ∀ x ∈ b, 0 ≤ x ∧ x < 256) : laminanum_Same.f a b = some (decide (a = b)) := by
  unfold laminanum_Same.f
  by_cases h : a = b
  · subst h; simp
  · rw [decide_eq_false h]
    congr 1
    apply beq_eq_false_iff_ne.2
    intro e
    apply h
    apply str_inj ha hb
    apply ByteArray.ext
    apply Array.toList_inj.1
    have e1 := ByteArray.toList_eq (strOfNums a)
    have e2 := ByteArray.toList_eq (strOfNums b)
    rw [← e1, ← e2]
    exact e
theorem same_n (A0 : Option Addr) (n0 c0 : Nat) (l0 : List Int) (A1 : Option Addr) (n1 c1 : Nat) (l1 : List Int) (r : Bool) (w : World) (h0 : Kd.C (Kd.int .u8) w A0 n0 l0) (k0 : n0 ≤ c0) (h1 : Kd.C (Kd.int .u8) w A1 n1 l1) (k1 : n1 ≤ c1) (b0 : ∀ x ∈ l0, 0 ≤ x ∧ x < 256) (b1 : ∀ x ∈ l1, 0 ≤ x ∧ x < 256) (hr : r = decide (l0 = l1)) :
    Calls Try.prog 16 #[.slice A0 n0 c0, .slice A1 n1 c1] w fun e w' => e = .returned (.bool r) ∧ Drawn0 w w' := by
  obtain rfl := h0.1
  obtain rfl := h1.1
  exact laminanum_Same.calls A0 c0 l0 A1 c1 l1 r w h0 k0 h1 k1 (by rw [same_eq l0 l1 b0 b1, hr])

/-! ### laminalaw04_opens: function 18 -/
theorem sm_nil (W : World) : Calls Try.prog 16 #[.slice none 0 0, .slice none 0 0] W fun e w' => e = .returned (.bool true) ∧ Drawn0 W w' :=
  same_n none 0 0 [] none 0 0 [] true W (Kd.C_nil _ _) (Nat.le_refl _) (Kd.C_nil _ _) (Nat.le_refl _) (fun _ h => absurd h (List.not_mem_nil)) (fun _ h => absurd h (List.not_mem_nil)) rfl
theorem openO_bd {s d : List Int} {k g n : Int} (hb : ∀ x ∈ s, 0 ≤ x ∧ x < 256) (h : openO s = some (k, g, n, d)) : ∀ x ∈ d, 0 ≤ x ∧ x < 256 := by
  unfold openO at h
  split at h
  · cases h
  · split at h
    · injection h with h
      injection h with _ h
      injection h with _ h
      injection h with _ h
      subst h
      exact oD_bd hb
    · cases h
theorem isO_bd {s : List Int} {d : List Int} {k g n : Int} (hb : ∀ x ∈ s, 0 ≤ x ∧ x < 256) (h : isO s k g n = some d) : ∀ x ∈ d, 0 ≤ x ∧ x < 256 := by
  unfold isO at h
  split at h
  · rename_i k' g' n' d' ho
    split at h
    · injection h with h
      subst h
      exact openO_bd hb ho
    · cases h
  · cases h
set_option maxRecDepth 100000 in
set_option maxHeartbeats 8000000 in
theorem laminalaw04_opens.calls (s : List Int) (k g n : Int) (w : World) (hs : s.length = 128) (hb : ∀ x ∈ s, 0 ≤ x ∧ x < 256) : Calls Try.prog 18 #[.agg (u8A s), .int .i64 k, .int .i64 g, .int .i64 n] w fun e w' => e = .returned (.bool true) ∧ Below w.heap.size w w' := by
  have H0 := Cx.start w
  have HS := Aside0.mk hs
  have HB := Aside0.mk hb
  have hu := u8A_size s
  rw [hs] at hu
  have HU := Aside0.mk hu
  clear hs hb hu
  go_enter Try.func18, Try.ntmps18
  go_wp2_with fail
  (apply Cx.atCall; (focus ((repeat (with_reducible (first | exact (H0).toS | exact At.here | apply At.there | apply CxS.drewN | apply CxS.drew | apply CxS.alloc | apply CxS.set | apply CxS.setRow))))); intro HT)
  refine (laminalaw04_alive.calls _).mono ?_
  rintro e w1 ⟨rfl, hj⟩
  have H1 := (HT).join hj; simp only [List.cons_append, List.nil_append] at H1
  clear HT hj H0
  go_wp2_with (first
    | ((with_reducible refine gate_load (t := 28) (x := .tmp 4) rfl ?_); (apply Cx.atList); (focus ((repeat (with_reducible (first | exact (H1).toS | exact At.here | apply At.there | apply CxS.drewN | apply CxS.drew | apply CxS.alloc | apply CxS.set | apply CxS.setRow))))); intro HT_; refine wpList_load_row rfl 28 (.tmp 4) rfl (w.heap.size) rfl _ (u8A s) _ _ (HT_.blk (by repeat (with_reducible (first | exact At.here | apply At.there)))) Try.underlying28 rfl (by rw [HU.out]; exact info_sector) ?_; clear HT_))
  refine (box_Open.calls s _ HS.out HB.out).mono ?_
  rintro e w2 h
  rcases h with ⟨hO, rfl, hj⟩ | ⟨k1, g1, n1, d1, v1, hO, rfl, hj⟩
  · have H2 := (H1).join hj; simp only [List.cons_append, List.nil_append] at H2
    have HO := Aside0.mk hO
    have HI := Aside0.mk (show isO s k g n = none by unfold isO; rw [hO])
    clear hO hj H1
    rw [errW_some]
    go_wp2_with (first
      | ((with_reducible refine gate_load (t := 28) (x := .tmp 4) rfl ?_); (apply Cx.atList); (focus ((repeat (with_reducible (first | exact (H2).toS | exact At.here | apply At.there | apply CxS.drewN | apply CxS.drew | apply CxS.alloc | apply CxS.set | apply CxS.setRow))))); intro HT_; refine wpList_load_row rfl 28 (.tmp 4) rfl (w.heap.size) rfl _ (u8A s) _ _ (HT_.blk (by repeat (with_reducible (first | exact At.here | apply At.there)))) Try.underlying28 rfl (by rw [HU.out]; exact info_sector) ?_; clear HT_))
    ((first | apply Cx.genCall | apply Cx.genCode | apply Cx.genList); (focus ((repeat (with_reducible (first | exact (H2).toS | exact At.here | apply At.there | apply CxS.drewN | apply CxS.drew | apply CxS.alloc | apply CxS.set | apply CxS.setRow))))); clear H2; intro w3 H3)
    refine (laminaref04_Open.calls s _ HS.out HB.out).mono ?_
    rintro e w4 h
    rcases h with ⟨hO, rfl, hj⟩ | ⟨k2, g2, n2, d2, v2, hO, rfl, hj⟩
    case inr => rw [HO.out] at hO; cases hO
    have H4 := (H3).join hj; simp only [List.cons_append, List.nil_append] at H4
    clear hO hj H3
    go_wp2_with (first
      | ((with_reducible refine gate_load (t := 28) (x := .tmp 4) rfl ?_); (apply Cx.atList); (focus ((repeat (with_reducible (first | exact (H4).toS | exact At.here | apply At.there | apply CxS.drewN | apply CxS.drew | apply CxS.alloc | apply CxS.set | apply CxS.setRow))))); intro HT_; refine wpList_load_row rfl 28 (.tmp 4) rfl (w.heap.size) rfl _ (u8A s) _ _ (HT_.blk (by repeat (with_reducible (first | exact At.here | apply At.there)))) Try.underlying28 rfl (by rw [HU.out]; exact info_sector) ?_; clear HT_))
    ((first | apply Cx.genCall | apply Cx.genCode | apply Cx.genList); (focus ((repeat (with_reducible (first | exact (H4).toS | exact At.here | apply At.there | apply CxS.drewN | apply CxS.drew | apply CxS.alloc | apply CxS.set | apply CxS.setRow))))); clear H4; intro w5 H5)
    refine (box_Is.calls s k g n _ HS.out HB.out).mono ?_
    rintro e w6 h
    rcases h with ⟨hO, rfl, hj⟩ | ⟨d3, v3, hO, rfl, hj⟩
    case inr => rw [HI.out] at hO; cases hO
    have H6 := (H5).join hj; simp only [List.cons_append, List.nil_append] at H6
    clear hO hj H5
    go_wp2_with (first
      | ((with_reducible refine gate_load (t := 28) (x := .tmp 4) rfl ?_); (apply Cx.atList); (focus ((repeat (with_reducible (first | exact (H6).toS | exact At.here | apply At.there | apply CxS.drewN | apply CxS.drew | apply CxS.alloc | apply CxS.set | apply CxS.setRow))))); intro HT_; refine wpList_load_row rfl 28 (.tmp 4) rfl (w.heap.size) rfl _ (u8A s) _ _ (HT_.blk (by repeat (with_reducible (first | exact At.here | apply At.there)))) Try.underlying28 rfl (by rw [HU.out]; exact info_sector) ?_; clear HT_))
    ((first | apply Cx.genCall | apply Cx.genCode | apply Cx.genList); (focus ((repeat (with_reducible (first | exact (H6).toS | exact At.here | apply At.there | apply CxS.drewN | apply CxS.drew | apply CxS.alloc | apply CxS.set | apply CxS.setRow))))); clear H6; intro w7 H7)
    refine (laminaref04_Is.calls s k g n _ HS.out HB.out).mono ?_
    rintro e w8 h
    rcases h with ⟨hO, rfl, hj⟩ | ⟨d4, v4, hO, rfl, hj⟩
    case inr => rw [HI.out] at hO; cases hO
    have H8 := (H7).join hj; simp only [List.cons_append, List.nil_append] at H8
    clear hO hj H7
    have F := (H8).facts; simp only [factsOf, Asr.facts, blkFacts, cellsAre, List.toList_toArray, forall_const, Nat.zero_add, Nat.reduceAdd, and_true, true_and] at F
    go_wp2_with fail
    have his := laminanum_Is.calls (some 11) 11 true w8 rfl
    rw [errW_some] at his
    refine his.mono ?_
    rintro e w9 ⟨rfl, hdr⟩
    have H9 := H8.below hdr.below
    clear his hdr H8 F
    have F := (H9).facts; simp only [factsOf, Asr.facts, blkFacts, cellsAre, List.toList_toArray, forall_const, Nat.zero_add, Nat.reduceAdd, and_true, true_and] at F
    go_wp2_with fail
    refine (sm_nil _).mono ?_
    rintro e w10 ⟨rfl, hdr⟩
    have H10 := H9.below hdr.below
    clear hdr H9 F
    go_wp2_with fail
    refine (sm_nil _).mono ?_
    rintro e w11 ⟨rfl, hdr⟩
    have H11 := H10.below hdr.below
    clear hdr H10
    go_wp2
    go_ret
    exact ⟨by first | rfl | simp, H11.bel⟩
  · have H2 := (H1).join hj; simp only [List.cons_append, List.nil_append] at H2
    have HO := Aside0.mk hO
    have HDB := Aside0.mk (openO_bd HB.out hO)
    clear hO hj H1
    obtain ⟨A1, c1, rfl, hc1⟩ := H2.slice (v := v1) (by repeat (with_reducible (first | exact At.here | apply At.there)))
    rw [errW_none]
    go_wp2_with (first
      | ((with_reducible refine gate_load (t := 28) (x := .tmp 4) rfl ?_); (apply Cx.atList); (focus ((repeat (with_reducible (first | exact (H2).toS | exact At.here | apply At.there | apply CxS.drewN | apply CxS.drew | apply CxS.alloc | apply CxS.set | apply CxS.setRow))))); intro HT_; refine wpList_load_row rfl 28 (.tmp 4) rfl (w.heap.size) rfl _ (u8A s) _ _ (HT_.blk (by repeat (with_reducible (first | exact At.here | apply At.there)))) Try.underlying28 rfl (by rw [HU.out]; exact info_sector) ?_; clear HT_))
    ((first | apply Cx.genCall | apply Cx.genCode | apply Cx.genList); (focus ((repeat (with_reducible (first | exact (H2).toS | exact At.here | apply At.there | apply CxS.drewN | apply CxS.drew | apply CxS.alloc | apply CxS.set | apply CxS.setRow))))); clear H2; intro w3 H3)
    refine (laminaref04_Open.calls s _ HS.out HB.out).mono ?_
    rintro e w4 h
    rcases h with ⟨hO, rfl, hj⟩ | ⟨k2, g2, n2, d2, v2, hO, rfl, hj⟩
    case inl => rw [HO.out] at hO; cases hO
    have H4 := (H3).join hj; simp only [List.cons_append, List.nil_append] at H4
    rw [HO.out] at hO
    injection hO with hO
    injection hO with a1 hO
    injection hO with a2 hO
    injection hO with a3 a4
    subst a1 a2 a3 a4
    clear hj H3
    obtain ⟨A2, c2, rfl, hc2⟩ := H4.slice (v := v2) (by repeat (with_reducible (first | exact At.here | apply At.there)))
    go_wp2_with (first
      | ((with_reducible refine gate_load (t := 28) (x := .tmp 4) rfl ?_); (apply Cx.atList); (focus ((repeat (with_reducible (first | exact (H4).toS | exact At.here | apply At.there | apply CxS.drewN | apply CxS.drew | apply CxS.alloc | apply CxS.set | apply CxS.setRow))))); intro HT_; refine wpList_load_row rfl 28 (.tmp 4) rfl (w.heap.size) rfl _ (u8A s) _ _ (HT_.blk (by repeat (with_reducible (first | exact At.here | apply At.there)))) Try.underlying28 rfl (by rw [HU.out]; exact info_sector) ?_; clear HT_))
    ((first | apply Cx.genCall | apply Cx.genCode | apply Cx.genList); (focus ((repeat (with_reducible (first | exact (H4).toS | exact At.here | apply At.there | apply CxS.drewN | apply CxS.drew | apply CxS.alloc | apply CxS.set | apply CxS.setRow))))); clear H4; intro w5 H5)
    refine (box_Is.calls s k g n _ HS.out HB.out).mono ?_
    rintro e w6 h
    rcases h with ⟨hI, rfl, hj⟩ | ⟨d3, v3, hI, rfl, hj⟩
    · have H6 := (H5).join hj; simp only [List.cons_append, List.nil_append] at H6
      have HI := Aside0.mk hI
      clear hI hj H5
      go_wp2_with (first
        | ((with_reducible refine gate_load (t := 28) (x := .tmp 4) rfl ?_); (apply Cx.atList); (focus ((repeat (with_reducible (first | exact (H6).toS | exact At.here | apply At.there | apply CxS.drewN | apply CxS.drew | apply CxS.alloc | apply CxS.set | apply CxS.setRow))))); intro HT_; refine wpList_load_row rfl 28 (.tmp 4) rfl (w.heap.size) rfl _ (u8A s) _ _ (HT_.blk (by repeat (with_reducible (first | exact At.here | apply At.there)))) Try.underlying28 rfl (by rw [HU.out]; exact info_sector) ?_; clear HT_))
      ((first | apply Cx.genCall | apply Cx.genCode | apply Cx.genList); (focus ((repeat (with_reducible (first | exact (H6).toS | exact At.here | apply At.there | apply CxS.drewN | apply CxS.drew | apply CxS.alloc | apply CxS.set | apply CxS.setRow))))); clear H6; intro w7 H7)
      refine (laminaref04_Is.calls s k g n _ HS.out HB.out).mono ?_
      rintro e w8 h
      rcases h with ⟨hO, rfl, hj⟩ | ⟨d4, v4, hO, rfl, hj⟩
      case inr => rw [HI.out] at hO; cases hO
      have H8 := (H7).join hj; simp only [List.cons_append, List.nil_append] at H8
      clear hO hj H7
      have F := (H8).facts; simp only [factsOf, Asr.facts, blkFacts, cellsAre, List.toList_toArray, forall_const, Nat.zero_add, Nat.reduceAdd, and_true, true_and] at F
      go_wp2_with fail
      (with_reducible refine (same_n A1 d1.length c1 d1 A2 d1.length c2 d1 true _ (H8.row (xs := d1) (A := A1) (c := c1) (n := d1.length) (by repeat (with_reducible (first | exact At.here | apply At.there)))).2.2 hc1 (H8.row (xs := d1) (A := A2) (c := c2) (n := d1.length) (by repeat (with_reducible (first | exact At.here | apply At.there)))).2.2 hc2 HDB.out HDB.out (decide_eq_true rfl).symm).mono ?_)
      rintro e w10 ⟨rfl, hdr⟩
      have H10 := H8.below hdr.below
      clear hdr H8 F
      go_wp2_with fail
      refine (sm_nil _).mono ?_
      rintro e w11 ⟨rfl, hdr⟩
      have H11 := H10.below hdr.below
      clear hdr H10
      go_wp2
      go_ret
      exact ⟨by first | rfl | simp, H11.bel⟩
    · have H6 := (H5).join hj; simp only [List.cons_append, List.nil_append] at H6
      have HI := Aside0.mk hI
      have HDB3 := Aside0.mk (isO_bd HB.out hI)
      clear hI hj H5
      obtain ⟨A3, c3, rfl, hc3⟩ := H6.slice (v := v3) (by repeat (with_reducible (first | exact At.here | apply At.there)))
      go_wp2_with (first
        | ((with_reducible refine gate_load (t := 28) (x := .tmp 4) rfl ?_); (apply Cx.atList); (focus ((repeat (with_reducible (first | exact (H6).toS | exact At.here | apply At.there | apply CxS.drewN | apply CxS.drew | apply CxS.alloc | apply CxS.set | apply CxS.setRow))))); intro HT_; refine wpList_load_row rfl 28 (.tmp 4) rfl (w.heap.size) rfl _ (u8A s) _ _ (HT_.blk (by repeat (with_reducible (first | exact At.here | apply At.there)))) Try.underlying28 rfl (by rw [HU.out]; exact info_sector) ?_; clear HT_))
      ((first | apply Cx.genCall | apply Cx.genCode | apply Cx.genList); (focus ((repeat (with_reducible (first | exact (H6).toS | exact At.here | apply At.there | apply CxS.drewN | apply CxS.drew | apply CxS.alloc | apply CxS.set | apply CxS.setRow))))); clear H6; intro w7 H7)
      refine (laminaref04_Is.calls s k g n _ HS.out HB.out).mono ?_
      rintro e w8 h
      rcases h with ⟨hO, rfl, hj⟩ | ⟨d4, v4, hO, rfl, hj⟩
      case inl => rw [HI.out] at hO; cases hO
      have H8 := (H7).join hj; simp only [List.cons_append, List.nil_append] at H8
      rw [HI.out] at hO
      injection hO with hO
      subst hO
      clear hj H7
      obtain ⟨A4, c4, rfl, hc4⟩ := H8.slice (v := v4) (by repeat (with_reducible (first | exact At.here | apply At.there)))
      have F := (H8).facts; simp only [factsOf, Asr.facts, blkFacts, cellsAre, List.toList_toArray, forall_const, Nat.zero_add, Nat.reduceAdd, and_true, true_and] at F
      go_wp2_with fail
      (with_reducible refine (same_n A1 d1.length c1 d1 A2 d1.length c2 d1 true _ (H8.row (xs := d1) (A := A1) (c := c1) (n := d1.length) (by repeat (with_reducible (first | exact At.here | apply At.there)))).2.2 hc1 (H8.row (xs := d1) (A := A2) (c := c2) (n := d1.length) (by repeat (with_reducible (first | exact At.here | apply At.there)))).2.2 hc2 HDB.out HDB.out (decide_eq_true rfl).symm).mono ?_)
      rintro e w10 ⟨rfl, hdr⟩
      have H10 := H8.below hdr.below
      clear hdr H8 F
      go_wp2_with fail
      (with_reducible refine (same_n A3 d3.length c3 d3 A4 d3.length c4 d3 true _ (H10.row (xs := d3) (A := A3) (c := c3) (n := d3.length) (by repeat (with_reducible (first | exact At.here | apply At.there)))).2.2 hc3 (H10.row (xs := d3) (A := A4) (c := c4) (n := d3.length) (by repeat (with_reducible (first | exact At.here | apply At.there)))).2.2 hc4 HDB3.out HDB3.out (decide_eq_true rfl).symm).mono ?_)
      rintro e w11 ⟨rfl, hdr⟩
      have H11 := H10.below hdr.below
      clear hdr H10
      go_wp2
      go_ret
      exact ⟨by first | rfl | simp, H11.bel⟩

end Go.Proofs.Ytgnpmephgdghhaa.Hp
