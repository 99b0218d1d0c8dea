/- Contracts of functions of the given program, and what they lean on: written by this session's own program, out of hand texts laid into the kit's printer. -/
import Derived.Deep.DeepCutAuto
import Derived.Deep.CutBlock
import Derived.Deep.RegionLaw
import Derived.Test.YtgnpmephgdghhaaHp0
import Derived.ArgAppend
import Derived.Deep.DeepAppendRoom
import Derived.Test.YtgnpmephgdghhaaHg1
namespace Go.Proofs.Ytgnpmephgdghhaa.Hp
open Go.RowKit Go.Proofs.YtgnpmephgdghhaaW.PrintWords Go.Proofs.YtgnpmephgdghhaaW.PrintLast Go.Proofs.YtgnpmephgdghhaaW.PrintMore
attribute [local go_sem] max2_int min2_int max_two min_two max_three min_three max_four min_four   -- for this text's walks alone
set_option linter.unusedVariables false
set_option linter.unusedSimpArgs false

/-! ### box_Seal: function 10 -/
/-- What stands in a sector behind its check sum; the sum's bytes; the sector. -/
def bodyL (k g n : Int) (d : List Int) : List Int := [k] ++ numL g ++ numL n ++ [(d.length : Int)] ++ d
def padL (k g n : Int) (d : List Int) : List Int := bodyL k g n d ++ List.replicate (106 - d.length) 0
def sumB (s : Int) : List Int := (List.range 4).map fun i => s / 2 ^ (8 * i) % 256
def secL (k g n : Int) (d : List Int) : List Int := sumB (sumI [padL k g n d]) ++ padL k g n d
def inR (k g n : Int) : Bool := decide (1 ≤ k ∧ k ≤ 255) && decide (0 ≤ g ∧ g ≤ 4611686018427387904) && decide (0 ≤ n ∧ n ≤ 2147483647)
def sealO (k g n : Int) (d : List Int) : List Int × Option Int :=
  if inR k g n = true then (if d.length ≤ 106 then (secL k g n d, none) else (List.replicate 128 0, some 2)) else (List.replicate 128 0, some 1)
theorem bodyL_len (k g n : Int) (d : List Int) : (bodyL k g n d).length = 18 + d.length := by simp [bodyL, numL_len]; omega
theorem padL_len (k g n : Int) (d : List Int) (h : d.length ≤ 106) : (padL k g n d).length = 124 := by simp [padL, bodyL_len]; omega
theorem sumB_len (s : Int) : (sumB s).length = 4 := by simp [sumB]
theorem secL_len (k g n : Int) (d : List Int) (h : d.length ≤ 106) : (secL k g n d).length = 128 := by simp [secL, sumB_len, padL_len k g n d h]
theorem sealO_len (k g n : Int) (d : List Int) : (sealO k g n d).1.length = 128 := by
  unfold sealO
  split
  · split
    · rename_i h; exact secL_len k g n d h
    · simp
  · simp
theorem numL_bd (n : Int) : ∀ x ∈ numL n, 0 ≤ x ∧ x < 256 := by
  intro x hx
  simp only [numL, List.mem_map] at hx
  obtain ⟨i, _, rfl⟩ := hx
  omega
theorem padL_bd (k g n : Int) (d : List Int) (hk : 0 ≤ k ∧ k < 256) (hd : ∀ x ∈ d, 0 ≤ x ∧ x < 256) (hl : d.length ≤ 106) : ∀ x ∈ padL k g n d, 0 ≤ x ∧ x < 256 := by
  intro x hx
  simp only [padL, bodyL, List.mem_append, List.mem_singleton, List.mem_replicate] at hx
  rcases hx with ((((h | h) | h) | h) | h) | h
  · omega
  · exact numL_bd g x h
  · exact numL_bd n x h
  · omega
  · exact hd x h
  · omega
theorem splice_pad (k g n : Int) (d : List Int) (hl : d.length ≤ 106) : (splice (z128.map (Value.int .u8)) 4 ((bodyL k g n d).map (Value.int .u8))).toArray = u8A (List.replicate 4 0 ++ padL k g n d) := by
  have h : z128.map (Value.int .u8) = (List.replicate 4 0).map (Value.int .u8) ++ ((List.replicate (18 + d.length) 0).map (Value.int .u8) ++ (List.replicate (106 - d.length) 0).map (Value.int .u8)) := by
    rw [← List.map_append, ← List.map_append, List.replicate_append_replicate, List.replicate_append_replicate, show 4 + (18 + d.length + (106 - d.length)) = 128 by omega]; rfl
  unfold splice u8A
  rw [List.length_map, bodyL_len]
  have e1 : (z128.map (Value.int .u8)).take 4 = (List.replicate 4 (0 : Int)).map (Value.int .u8) := by rw [← List.map_take, z128, List.take_replicate]; rfl
  have e2 : (z128.map (Value.int .u8)).drop (4 + (18 + d.length)) = (List.replicate (106 - d.length) (0 : Int)).map (Value.int .u8) := by
    rw [← List.map_drop, z128, List.drop_replicate, show 128 - (4 + (18 + d.length)) = 106 - d.length by omega]
  rw [e1, e2, ← List.map_append, ← List.map_append]
  rfl
theorem C_pad {w : World} {g t : Nat} {z p : List Int} {fr : Nat × Nat} (hb : w.heap[g]? = some (.cells (u8A (z ++ p)) t fr)) (hz : z.length = 4) (hp : p.length = 124) : Kd.C (Kd.int .u8) w (some ⟨g, 4, none⟩) 124 p := by
  have h := C_u8A hb (by rw [List.length_append]; omega) 4 (by rw [List.length_append]; omega)
  have e : (z ++ p).drop 4 = p := by rw [← hz, List.drop_left]
  rw [e, hp] at h
  exact h
theorem u8A_at (s : List Int) (i : Nat) (h : i < s.length) : (u8A s)[i]? = some (.int .u8 (rd s i)) := by simp [u8A, rd, h]
/-- A sector of which i bytes of the sum are told. -/
def secI (s : Int) (p : List Int) (i : Nat) : List Int := (sumB s).take i ++ List.replicate (4 - i) 0 ++ p
theorem secI_len (s : Int) (p : List Int) (i : Nat) (hi : i ≤ 4) (hp : p.length = 124) : (secI s p i).length = 128 := by simp [secI, sumB_len, hp]; omega
theorem secI_set (s : Int) (p : List Int) (i : Nat) (hi : i < 4) (x : Int) (hx : x = s / 2 ^ (8 * i) % 256) : (u8A (secI s p i)).setIfInBounds i (.int .u8 x) = u8A (secI s p (i + 1)) := by
  have h : (secI s p i).set i x = secI s p (i + 1) := by
    unfold secI
    have hl : ((sumB s).take i).length = i := by rw [List.length_take, sumB_len]; omega
    rw [List.append_assoc, List.set_append_right _ _ (by omega), hl, Nat.sub_self, show 4 - i = (4 - (i + 1)) + 1 by omega, List.replicate_succ, List.cons_append, List.set_cons_zero]
    have h2 : (sumB s).take (i + 1) = (sumB s).take i ++ [x] := by
      rw [List.take_succ_eq_append_getElem (by rw [sumB_len]; exact hi)]
      simp [sumB, hx]
    rw [h2]
    simp
  rw [← h]
  simp [u8A]
theorem secI_zero (s : Int) (p : List Int) : secI s p 0 = List.replicate 4 0 ++ p := rfl
theorem secI_four (s : Int) (p : List Int) : secI s p 4 = sumB s ++ p := by
  unfold secI
  rw [List.take_of_length_le (by rw [sumB_len]; exact Nat.le_refl _)]
  simp
set_option maxRecDepth 100000 in
set_option maxHeartbeats 2000000 in
theorem box_Seal.range (k g n : Int) (A : Option Addr) (c : Nat) (d : List Int) (w : World) (hin : inR k g n = false) : Calls Try.prog 10 #[.agg #[.int .i64 k, .int .i64 g, .int .i64 n, .slice A d.length c]] w fun e w' => e = .returned (.tuple #[.agg (u8A (sealO k g n d).1), errW (sealO k g n d).2]) ∧ Cx w.heap.size w w' [] := by
  have H0 := Cx.start w
  have hz := zero_sector
  obtain ⟨b1, hb1⟩ : ∃ b, b = decide (1 ≤ k ∧ k ≤ 255) := ⟨_, rfl⟩
  obtain ⟨b2, hb2⟩ : ∃ b, b = decide (0 ≤ g ∧ g ≤ 4611686018427387904) := ⟨_, rfl⟩
  obtain ⟨b3, hb3⟩ : ∃ b, b = decide (0 ≤ n ∧ n ≤ 2147483647) := ⟨_, rfl⟩
  have HB1 := Aside0.mk hb1
  have HB2 := Aside0.mk hb2
  have HB3 := Aside0.mk hb3
  have hq : (b1 && b2 && b3) = false := by rw [← hin]; subst hb1 hb2 hb3; rfl
  have hso : sealO k g n d = (z128, some 1) := by unfold sealO; rw [hin]; rfl
  rw [hso, errW_some]
  clear hb1 hb2 hb3 hin hso
  have hc : b1 = false ∨ (b1 = true ∧ b2 = false) ∨ (b1 = true ∧ b2 = true ∧ b3 = false) := by
    rcases b1 <;> rcases b2 <;> rcases b3 <;> simp_all
  clear hq
  go_enter Try.func10, Try.ntmps10
  go_wp2_with fail
  ((first | apply Cx.genCall | apply Cx.genCode | apply Cx.genList); (focus ((repeat (with_reducible (first | exact (H0).toS | exact At.here | apply At.there | apply CxS.drewN | apply CxS.drew | apply CxS.alloc | apply CxS.set | apply CxS.setRow))))); clear H0; intro w1 H1)
  have F := (H1).facts; simp only [factsOf, Asr.facts, blkFacts, cellsAre, List.toList_toArray, forall_const, Nat.zero_add, Nat.reduceAdd, and_true, true_and] at F
  rcases hc with rfl | ⟨rfl, rfl⟩ | ⟨rfl, rfl, rfl⟩
  all_goals (
    go_wp2_with (first
      | (go_at_call 23; (with_reducible refine (within_calls k 1 255 _ HB1.out _).mono ?_); rintro e w' ⟨rfl, ⟨nn, rfl⟩⟩)
      | (go_at_call 23; (with_reducible refine (within_calls g 0 4611686018427387904 _ HB2.out _).mono ?_); rintro e w' ⟨rfl, ⟨nn, rfl⟩⟩)
      | (go_at_call 23; (with_reducible refine (within_calls n 0 2147483647 _ HB3.out _).mono ?_); rintro e w' ⟨rfl, ⟨nn, rfl⟩⟩)
      | ((with_reducible refine gate_load (t := 28) (x := .tmp 2) rfl ?_); (apply Cx.atList); (focus ((repeat (with_reducible (first | exact (H1).toS | exact At.here | apply At.there | apply CxS.drewN | apply CxS.drew | apply CxS.alloc | apply CxS.set | apply CxS.setRow))))); intro HT_; refine wpList_load_row rfl 28 (.tmp 2) rfl (w.heap.size + 1) rfl _ (u8A z128) _ _ (HT_.blk (by repeat (with_reducible (first | exact At.here | apply At.there)))) Try.underlying28 rfl (info_z) ?_; clear HT_)
      | ((with_reducible refine gate_store (t := 28) (x := .tmp 2) (y := .tmp 24) rfl ?_); (apply Cx.atList); (focus ((repeat (with_reducible (first | exact (H1).toS | exact At.here | apply At.there | apply CxS.drewN | apply CxS.drew | apply CxS.alloc | apply CxS.set | apply CxS.setRow))))); intro HT_; refine wpList_store_row rfl 28 (.tmp 2) (.tmp 24) rfl (w.heap.size + 1) (u8A z128) rfl rfl _ _ (HT_.blk (by repeat (with_reducible (first | exact At.here | apply At.there)))) (info_z) (rfl) (u8A_one _) ?_; clear HT_))
    ((try simp only [Exit.inBlock, Exit.then]); (apply Cx.atPost); (focus ((repeat (with_reducible (first | exact (H1).toS | exact At.here | apply At.there | apply CxS.drewN | apply CxS.drew | apply CxS.alloc | apply CxS.set | apply CxS.setRow))))); intro HT)
    exact bodyPost_ret (results_ct rfl _ _ (w.heap.size + 1) _ (u8A z128) (0, 0) _ rfl (HT.blk (by repeat (with_reducible (first | exact At.here | apply At.there)))) Try.underlying28 rfl info_z) rfl ⟨rfl, HT.nil⟩)
set_option maxRecDepth 100000 in
set_option maxHeartbeats 2000000 in
theorem box_Seal.form (k g n : Int) (A : Option Addr) (c : Nat) (d : List Int) (w : World) (hin : inR k g n = true) (hm : d.length ≤ 9223372036854775807) (hl : ¬ d.length ≤ 106) : Calls Try.prog 10 #[.agg #[.int .i64 k, .int .i64 g, .int .i64 n, .slice A d.length c]] w fun e w' => e = .returned (.tuple #[.agg (u8A (sealO k g n d).1), errW (sealO k g n d).2]) ∧ Cx w.heap.size w w' [] := by
  have H0 := Cx.start w
  have hz := zero_sector
  have hso : sealO k g n d = (z128, some 2) := by unfold sealO; rw [hin, if_pos rfl, if_neg hl]; rfl
  rw [hso, errW_some]
  clear hso
  unfold inR at hin
  simp only [Bool.and_eq_true] at hin
  have HB1 := Aside0.mk hin.1.1.symm
  have HB2 := Aside0.mk hin.1.2.symm
  have HB3 := Aside0.mk hin.2.symm
  clear hin
  have hl2 : decide ((106 : Int) < (d.length : Int)) = true := decide_eq_true (by omega)
  go_enter Try.func10, Try.ntmps10
  go_wp2_with fail
  ((first | apply Cx.genCall | apply Cx.genCode | apply Cx.genList); (focus ((repeat (with_reducible (first | exact (H0).toS | exact At.here | apply At.there | apply CxS.drewN | apply CxS.drew | apply CxS.alloc | apply CxS.set | apply CxS.setRow))))); clear H0; intro w1 H1)
  have F := (H1).facts; simp only [factsOf, Asr.facts, blkFacts, cellsAre, List.toList_toArray, forall_const, Nat.zero_add, Nat.reduceAdd, and_true, true_and] at F
  go_wp2_with (first
    | (go_at_call 23; (with_reducible refine (within_calls k 1 255 _ HB1.out _).mono ?_); rintro e w' ⟨rfl, ⟨nn, rfl⟩⟩)
    | (go_at_call 23; (with_reducible refine (within_calls g 0 4611686018427387904 _ HB2.out _).mono ?_); rintro e w' ⟨rfl, ⟨nn, rfl⟩⟩)
    | (go_at_call 23; (with_reducible refine (within_calls n 0 2147483647 _ HB3.out _).mono ?_); rintro e w' ⟨rfl, ⟨nn, rfl⟩⟩)
    | ((with_reducible refine gate_load (t := 28) (x := .tmp 2) rfl ?_); (apply Cx.atList); (focus ((repeat (with_reducible (first | exact (H1).toS | exact At.here | apply At.there | apply CxS.drewN | apply CxS.drew | apply CxS.alloc | apply CxS.set | apply CxS.setRow))))); intro HT_; refine wpList_load_row rfl 28 (.tmp 2) rfl (w.heap.size + 1) rfl _ (u8A z128) _ _ (HT_.blk (by repeat (with_reducible (first | exact At.here | apply At.there)))) Try.underlying28 rfl (info_z) ?_; clear HT_)
    | ((with_reducible refine gate_store (t := 28) (x := .tmp 2) (y := .tmp 31) rfl ?_); (apply Cx.atList); (focus ((repeat (with_reducible (first | exact (H1).toS | exact At.here | apply At.there | apply CxS.drewN | apply CxS.drew | apply CxS.alloc | apply CxS.set | apply CxS.setRow))))); intro HT_; refine wpList_store_row rfl 28 (.tmp 2) (.tmp 31) rfl (w.heap.size + 1) (u8A z128) rfl rfl _ _ (HT_.blk (by repeat (with_reducible (first | exact At.here | apply At.there)))) (info_z) (rfl) (u8A_one _) ?_; clear HT_))
  ((try simp only [Exit.inBlock, Exit.then]); (apply Cx.atPost); (focus ((repeat (with_reducible (first | exact (H1).toS | exact At.here | apply At.there | apply CxS.drewN | apply CxS.drew | apply CxS.alloc | apply CxS.set | apply CxS.setRow))))); intro HT)
  exact bodyPost_ret (results_ct rfl _ _ (w.heap.size + 1) _ (u8A z128) (0, 0) _ rfl (HT.blk (by repeat (with_reducible (first | exact At.here | apply At.there)))) Try.underlying28 rfl info_z) rfl ⟨rfl, HT.nil⟩
set_option maxRecDepth 100000 in
set_option maxHeartbeats 4000000 in
theorem box_Seal.good (k g n : Int) (A : Option Addr) (c : Nat) (d : List Int) (w : World) (hr : Kd.C (Kd.int .u8) w A d.length d) (hd : ∀ x ∈ d, 0 ≤ x ∧ x < 256) (hc : d.length ≤ c) (hin : inR k g n = true) (hl : d.length ≤ 106) : Calls Try.prog 10 #[.agg #[.int .i64 k, .int .i64 g, .int .i64 n, .slice A d.length c]] w fun e w' => e = .returned (.tuple #[.agg (u8A (sealO k g n d).1), errW (sealO k g n d).2]) ∧ Cx w.heap.size w w' [] := by
  have H0 := Cx.start w
  have hz := zero_sector
  have hal := @alloc_cell
  have hso : sealO k g n d = (secL k g n d, none) := by unfold sealO; rw [hin, if_pos rfl, if_pos hl]
  rw [hso, errW_none]
  clear hso
  unfold inR at hin
  simp only [Bool.and_eq_true] at hin
  have hk1 : 1 ≤ k ∧ k ≤ 255 := of_decide_eq_true hin.1.1
  have hg1 : 0 ≤ g ∧ g ≤ 4611686018427387904 := of_decide_eq_true hin.1.2
  have hn1 : 0 ≤ n ∧ n ≤ 2147483647 := of_decide_eq_true hin.2
  have HB1 := Aside0.mk hin.1.1.symm
  have HB2 := Aside0.mk hin.1.2.symm
  have HB3 := Aside0.mk hin.2.symm
  have HR := Aside0.mk hr
  have HD := Aside0.mk hd
  clear hin hr hd
  have hl2 : decide ((106 : Int) < (d.length : Int)) = false := decide_eq_false (by omega)
  have hkm : k % 256 = k := Int.emod_eq_of_lt (by omega) (by omega)
  have hlm : (d.length : Int) % 256 = d.length := Int.emod_eq_of_lt (by omega) (by omega)
  go_enter Try.func10, Try.ntmps10
  go_wp2_with fail
  ((first | apply Cx.genCall | apply Cx.genCode | apply Cx.genList); (focus ((repeat (with_reducible (first | exact (H0).toS | exact At.here | apply At.there | apply CxS.drewN | apply CxS.drew | apply CxS.alloc | apply CxS.set | apply CxS.setRow))))); clear H0; intro w1 H1)
  have F := (H1).facts; simp only [factsOf, Asr.facts, blkFacts, cellsAre, List.toList_toArray, forall_const, Nat.zero_add, Nat.reduceAdd, and_true, true_and] at F
  go_wp2_with (first
    | (go_at_call 23; (with_reducible refine (within_calls k 1 255 _ HB1.out _).mono ?_); rintro e w' ⟨rfl, ⟨nn, rfl⟩⟩)
    | (go_at_call 23; (with_reducible refine (within_calls g 0 4611686018427387904 _ HB2.out _).mono ?_); rintro e w' ⟨rfl, ⟨nn, rfl⟩⟩)
    | (go_at_call 23; (with_reducible refine (within_calls n 0 2147483647 _ HB3.out _).mono ?_); rintro e w' ⟨rfl, ⟨nn, rfl⟩⟩))
  ((first | apply Cx.genCall | apply Cx.genCode | apply Cx.genList); (focus ((repeat (with_reducible (first | exact (H1).toS | exact At.here | apply At.there | apply CxS.drewN | apply CxS.drew | apply CxS.alloc | apply CxS.set | apply CxS.setRow))))); clear H1; intro w2 H2)
  clear F
  have H2 := H2.wr_new (by repeat (with_reducible (first | exact At.here | apply At.there)))
  refine (wr_byte k H2 (by repeat (with_reducible (first | exact At.here | apply At.there))) (by simp)).mono ?_
  rintro e w3 ⟨rfl, H3⟩
  clear H2
  have F := (H3).facts; simp only [factsOf, Asr.facts, blkFacts, cellsAre, List.toList_toArray, forall_const, Nat.zero_add, Nat.reduceAdd, and_true, true_and] at F
  go_wp2_with fail
  refine (wr_num g H3 (by repeat (with_reducible (first | exact At.here | apply At.there))) (by simp) (by omega) (by omega)).mono ?_
  rintro e w4 ⟨rfl, H4⟩
  clear H3 F
  have F := (H4).facts; simp only [factsOf, Asr.facts, blkFacts, cellsAre, List.toList_toArray, forall_const, Nat.zero_add, Nat.reduceAdd, and_true, true_and] at F
  go_wp2_with fail
  refine (wr_num n H4 (by repeat (with_reducible (first | exact At.here | apply At.there))) (by simp [numL_len]) (by omega) (by omega)).mono ?_
  rintro e w5 ⟨rfl, H5⟩
  clear H4 F
  have F := (H5).facts; simp only [factsOf, Asr.facts, blkFacts, cellsAre, List.toList_toArray, forall_const, Nat.zero_add, Nat.reduceAdd, and_true, true_and] at F
  go_wp2_with fail
  refine (wr_byte (d.length : Int) H5 (by repeat (with_reducible (first | exact At.here | apply At.there))) (by simp [numL_len])).mono ?_
  rintro e w6 ⟨rfl, H6⟩
  clear H5 F
  simp only [List.nil_append] at H6
  have HH : [k] ++ numL g ++ numL n ++ [(d.length : Int)] ++ d = bodyL k g n d := rfl
  have hhl : ([k] ++ numL g ++ numL n ++ [(d.length : Int)]).length = 18 := by simp [numL_len]
  have HHH := Aside0.mk HH
  have HHL := Aside0.mk hhl
  clear HH hhl
  generalize [k] ++ numL g ++ numL n ++ [(d.length : Int)] = hd at *
  have F := (H6).facts; simp only [factsOf, Asr.facts, blkFacts, cellsAre, List.toList_toArray, forall_const, Nat.zero_add, Nat.reduceAdd, and_true, true_and] at F
  go_upto_region 10 with fail
  go_cut [] (fun wx => Cx w.heap.size w wx [.blk (w.heap.size + 1) (.cells (u8A (List.replicate 4 0 ++ padL k g n d)) 28 (0, 0))])
  case first =>
    go_region_law (first
      | (go_simp; go_at_call 27; (apply Cx.atCall; (focus ((repeat (with_reducible (first | exact (H6).toS | exact At.here | apply At.there | apply CxS.drewN | apply CxS.drew | apply CxS.alloc | apply CxS.set | apply CxS.setRow))))); intro HT); (with_reducible refine (wr_out HT (by repeat (with_reducible (first | exact At.here | apply At.there))) (by rw [HHL.out]; omega)).mono ?_); rintro e w7 ⟨v7, rfl, H7⟩; obtain ⟨A7, c7, rfl, hc7⟩ := H7.slice (by repeat (with_reducible (first | exact At.here | apply At.there))); have F7 := (H7).facts; simp only [factsOf, Asr.facts, blkFacts, cellsAre, List.toList_toArray, forall_const, Nat.zero_add, Nat.reduceAdd, and_true, true_and] at F7; clear HT)
      | (go_simp; go_at_call 26; (apply Cx.atCall; (focus ((repeat (with_reducible (first | exact (H7).toS | exact At.here | apply At.there | apply CxS.drewN | apply CxS.drew | apply CxS.alloc | apply CxS.set | apply CxS.setRow))))); intro HT); (refine (slices_Concat_byte_byte.calls _ 2 [hd, d] _ (C_pair (HT.blk (by repeat (with_reducible (first | exact At.here | apply At.there)))) (HT.row (by repeat (with_reducible (first | exact At.here | apply At.there)))).2.2 hc7 (Kd.C_below HR.out HT.bel) hc) (by simp [HHL.out]; omega) (by simp)).mono ?_); rintro e w8 ⟨v8, rfl, H8⟩; have H8 := HT.join H8; simp only [List.cons_append, List.nil_append, List.flatten_cons, List.flatten_nil, List.append_nil, HHH.out] at H8; obtain ⟨A8, c8, rfl, hc8⟩ := H8.slice (by repeat (with_reducible (first | exact At.here | apply At.there))); clear HT)
      | ((refine gate_step (b := .copy) (xs := #[.tmp 54, .tmp 60]) rfl ?_); (apply Cx.atStep); (focus ((repeat (with_reducible (first | exact (H8).toS | exact At.here | apply At.there | apply CxS.drewN | apply CxS.drew | apply CxS.alloc | apply CxS.set | apply CxS.setRow))))); intro HT; (refine cx_copy_step rfl (.tmp 54) (.tmp 60) 22 22 rfl 5 Try.underlying22 size_u8 _ _ 124 124 _ _ rfl rfl (w.heap.size + 1) 4 (z128.map (Value.int .u8)) 28 HT (curA := u8A z128) (by repeat (with_reducible (first | exact At.here | apply At.there))) rfl ((bodyL k g n d).map (Value.int .u8)) (by rw [List.length_map, bodyL_len]; simp [Nat.min_def]; omega) (fun _ => ⟨rfl, C_map (HT.row (by repeat (with_reducible (first | exact At.here | apply At.there)))).2.2 (by rw [bodyL_len]; omega)⟩) (by rw [List.length_map, List.length_map, bodyL_len]; simp [z128]; omega) (fun v hv => by simp only [List.mem_map] at hv; obtain ⟨x, _, rfl⟩ := hv; rfl) ?_); intro w9 H9; rw [splice_pad k g n d hl] at H9; clear HT))
    all_goals (go_wp2_with fail; go_meet; exact H9.head (by repeat (with_reducible (first | exact At.here | apply At.there))))
  case rest =>
    have H9 := hcut
    clear hcut
    have hpl := padL_len k g n d hl
    have HPB := Aside0.mk (padL_bd k g n d ⟨by omega, by omega⟩ HD.out hl)
    have HSL := Aside0.mk (show secL k g n d = sumB (sumI [padL k g n d]) ++ padL k g n d from rfl)
    have HPL := Aside0.mk hpl
    clear hpl
    generalize padL k g n d = p at *
    go_wp2_with fail
    (apply Cx.atCall; (focus ((repeat (with_reducible (first | exact (H9).toS | exact At.here | apply At.there | apply CxS.drewN | apply CxS.drew | apply CxS.alloc | apply CxS.set | apply CxS.setRow))))); intro HT)
    refine (crc_Sum.calls _ 1 [p] (sumI [p]) _ (C_one (HT.blk (by repeat (with_reducible (first | exact At.here | apply At.there)))) (C_pad (HT.blk (by repeat (with_reducible (first | exact At.here | apply At.there)))) rfl HPL.out) (Nat.le_refl _)) (Nat.le_refl _) (by unfold crc_Sum.f; rw [if_pos (by intro l hl x hx; rw [List.mem_singleton] at hl; subst hl; exact HPB.out x hx)])).mono ?_
    rintro e w10 ⟨rfl, hb⟩
    have H10 := (HT.below hb).head (a := .blk (w.heap.size + 1) (.cells (u8A (List.replicate 4 0 ++ p)) 28 (0, 0))) (by repeat (with_reducible (first | exact At.here | apply At.there)))
    clear HT hb
    have hsb := sumI_bd [p] 0 (by decide) (by decide) (fun l hl x hx => by rw [List.mem_singleton] at hl; subst hl; exact HPB.out x hx)
    have hs0 : 0 ≤ sumI [p] := hsb.1
    have hs1 : sumI [p] < 4294967296 := hsb.2
    clear hsb
    generalize sumI [p] = s at *
    go_wp2
    go_loopw [65] (fun v65 wr => ∃ i : Nat, i ≤ 4 ∧ v65 = .int .i64 i ∧ Cx w.heap.size w wr [.blk (w.heap.size + 1) (.cells (u8A (secI s p i)) 28 (0, 0))]) (fun v65 _ => 4 - (intOf v65).toNat)
    case atStart => exact ⟨0, by omega, rfl, H10⟩
    case round =>
      clear H10
      obtain ⟨i, hi, rfl, H11⟩ := hrel
      by_cases hlt : i < 4
      · have hcell : wr.cell? ⟨w.heap.size + 1, i, none⟩ = some (.int .u8 (rd (secI s p i) i)) := (blk_cell (H11.blk (by repeat (with_reducible (first | exact At.here | apply At.there)))) i).trans (u8A_at _ _ (by rw [secI_len s p i hi HPL.out]; omega))
        have hfr : wr.frozen? ⟨w.heap.size + 1, i, none⟩ = false := blk_frozen (H11.blk (by repeat (with_reducible (first | exact At.here | apply At.there)))) i
        go_wp2
        trace_state
        refine ⟨⟨i + 1, by omega, by go_num, ?_⟩, by simp [intOf]; omega⟩
        rw [← secI_set s p i hlt _ rfl]
        exact (CxS.set H11.toS At.here _ _).cx
      · obtain rfl : i = 4 := by omega
        have H12 := H11
        rw [secI_four, ← HSL.out] at H12
        clear H11
        go_wp2_with (first
          | ((with_reducible refine gate_load (t := 28) (x := .tmp 2) rfl ?_); (apply Cx.atList); (focus ((repeat (with_reducible (first | exact (H12).toS | exact At.here | apply At.there | apply CxS.drewN | apply CxS.drew | apply CxS.alloc | apply CxS.set | apply CxS.setRow))))); intro HT_; refine wpList_load_row rfl 28 (.tmp 2) rfl (w.heap.size + 1) rfl _ (u8A (secL k g n d)) _ _ (HT_.blk (by repeat (with_reducible (first | exact At.here | apply At.there)))) Try.underlying28 rfl (by rw [u8A_size, secL_len k g n d hl]; exact info_sector) ?_; clear HT_)
          | ((with_reducible refine gate_store (t := 28) (x := .tmp 2) (y := .tmp 76) rfl ?_); (apply Cx.atList); (focus ((repeat (with_reducible (first | exact (H12).toS | exact At.here | apply At.there | apply CxS.drewN | apply CxS.drew | apply CxS.alloc | apply CxS.set | apply CxS.setRow))))); intro HT_; refine wpList_store_row rfl 28 (.tmp 2) (.tmp 76) rfl (w.heap.size + 1) (u8A (secL k g n d)) rfl rfl _ _ (HT_.blk (by repeat (with_reducible (first | exact At.here | apply At.there)))) (by rw [u8A_size, secL_len k g n d hl]; exact info_sector) (rfl) (u8A_one _) ?_; clear HT_))
        ((try simp only [Exit.inBlock, Exit.then]); (apply Cx.atPost); (focus ((repeat (with_reducible (first | exact (H12).toS | exact At.here | apply At.there | apply CxS.drewN | apply CxS.drew | apply CxS.alloc | apply CxS.set | apply CxS.setRow))))); intro HT)
        exact bodyPost_ret (results_ct rfl _ _ (w.heap.size + 1) _ (u8A (secL k g n d)) (0, 0) _ rfl (HT.blk (by repeat (with_reducible (first | exact At.here | apply At.there)))) Try.underlying28 rfl (by rw [u8A_size, secL_len k g n d hl]; exact info_sector)) rfl ⟨rfl, HT.nil⟩
theorem box_Seal.calls (k g n : Int) (A : Option Addr) (c : Nat) (d : List Int) (w : World) (hr : Kd.C (Kd.int .u8) w A d.length d) (hd : ∀ x ∈ d, 0 ≤ x ∧ x < 256) (hc : d.length ≤ c) : Calls Try.prog 10 #[.agg #[.int .i64 k, .int .i64 g, .int .i64 n, .slice A d.length c]] w fun e w' => e = .returned (.tuple #[.agg (u8A (sealO k g n d).1), errW (sealO k g n d).2]) ∧ Cx w.heap.size w w' [] := by
  by_cases hin : inR k g n = true
  · by_cases hl : d.length ≤ 106
    · exact box_Seal.good k g n A c d w hr hd hc hin hl
    · exact box_Seal.form k g n A c d w hin hr.2.1 hl
  · exact box_Seal.range k g n A c d w (by simpa using hin)

-- AUX boxO
theorem seal_n (k g n : Int) (A : Option Addr) (m c : Nat) (d : List Int) (w : World) (hr : Kd.C (Kd.int .u8) w A m d) (hd : ∀ x ∈ d, 0 ≤ x ∧ x < 256) (hc : m ≤ c) (S : List Int) (er : Option Int) (hS : (S, er) = sealO k g n d) :
    Calls Try.prog 10 #[.agg #[.int .i64 k, .int .i64 g, .int .i64 n, .slice A m c]] w fun e w' => e = .returned (.tuple #[.agg (u8A S), errW er]) ∧ Cx w.heap.size w w' [] := by
  obtain rfl := hr.1
  have h := box_Seal.calls k g n A c d w hr hd hc
  rw [← hS] at h
  exact h
theorem sealO_er (k g n : Int) (d : List Int) : (sealO k g n d).2 = none ∨ (sealO k g n d).2 = some 1 ∨ (sealO k g n d).2 = some 2 := by
  unfold sealO
  split
  · split
    · exact .inl rfl
    · exact .inr (.inr rfl)
  · exact .inr (.inl rfl)
theorem guard_sector : Try.prog.eqGuardType Try.prog.depth 28 = false := by kernel_rfl
/-- What is read of a sector. -/
def oK (s : List Int) : Int := rd s 4
def oG (s : List Int) : Int := unL ((s.drop 5).take 8)
def oN (s : List Int) : Int := unL ((s.drop 13).take 8)
def oS (s : List Int) : Int := rd s 21
def oD (s : List Int) : List Int := (s.drop 22).take (oS s).toNat
def openO (s : List Int) : Option (Int × Int × Int × List Int) :=
  if oS s > 106 then none else if sealO (oK s) (oG s) (oN s) (oD s) = (s, none) then some (oK s, oG s, oN s, oD s) else none
theorem byteS_yes (l : List Int) (h : 0 < l.length) : byteS l false = (rd l 0, l.drop 1, false) := by
  unfold byteS tkS
  rw [if_pos ⟨rfl, by omega, by omega⟩]
  rcases l with _ | ⟨x, l⟩
  · simp at h
  · simp [rd]
theorem numS_yes (l : List Int) (h : 8 ≤ l.length) : numS l false = (unL (l.take 8), l.drop 8, false) := by
  unfold numS tkS
  rw [if_pos ⟨rfl, by omega, by omega⟩]
  rfl
theorem rd_drop (l : List Int) (k : Nat) : rd (l.drop k) 0 = rd l k := by simp [rd]
theorem unL_bd (b : List Int) : -9223372036854775808 ≤ unL b ∧ unL b ≤ 9223372036854775807 := by unfold unL wrap64; omega
theorem rd_bds {s : List Int} (h : ∀ x ∈ s, 0 ≤ x ∧ x < 256) (k : Nat) (hk : k < s.length) : 0 ≤ rd s k ∧ rd s k < 256 := by
  have e : rd s (k : Int) = s[k] := by simp [rd, hk]
  rw [e]
  exact h _ (List.getElem_mem hk)
theorem oD_len (s : List Int) (hs : s.length = 128) (h0 : 0 ≤ oS s) (h : oS s ≤ 106) : ((oD s).length : Int) = oS s := by
  unfold oD
  rw [List.length_take, List.length_drop, hs]
  omega
theorem oD_bd {s : List Int} (h : ∀ x ∈ s, 0 ≤ x ∧ x < 256) : ∀ x ∈ oD s, 0 ≤ x ∧ x < 256 := fun x hx => h x (List.mem_of_mem_drop (List.mem_of_mem_take hx))
/-- What Open answers. -/
def OpenTo (s : List Int) (w : World) (e : Ending) (w' : World) : Prop :=
  (openO s = none ∧ e = .returned (.tuple #[.agg #[.int .i64 0, .int .i64 0, .int .i64 0, .slice none 0 0], errW (some 11)]) ∧ Cx w.heap.size w w' []) ∨
  (∃ k g n d v, openO s = some (k, g, n, d) ∧ e = .returned (.tuple #[.agg #[.int .i64 k, .int .i64 g, .int .i64 n, v], errW none]) ∧ Cx w.heap.size w w' [.own bytesR v d])

/-! ### wire_NewReader: function 31 -/
/-- A reader that was made. -/
structure RdNew (w w' : World) (h : Value) (l : List Int) : Prop where
  rd : Rd w' (fun i => w.heap.size ≤ i ∧ i < w'.heap.size ∧ ¬ Pt h i) h l false
  pt : ∀ i, Pt h i → w.heap.size ≤ i ∧ i < w'.heap.size
  below : Below w.heap.size w w'
theorem wire_NewReader.calls (A : Option Addr) (c : Nat) (l : List Int) (w : World) (hr : Kd.C (Kd.int .u8) w A l.length l) (hb : ∀ x ∈ l, 0 ≤ x ∧ x < 256) (hl : l.length < 140737488355328) :
    Calls Try.prog 31 #[.slice A l.length c] w fun e w' => ∃ p, e = .returned (.pointer (some ⟨p, 0, none⟩)) ∧ RdNew w w' (.pointer (some ⟨p, 0, none⟩)) l := by
  have HR := Aside0.mk hr
  have HBY := Aside0.mk hb
  clear hr hb
  go_enter Try.func31, Try.ntmps31
  go_wp2_with fail
  refine (slices_Clone_byte_byte.own A c l _ HR.out hl).mono ?_
  rintro e w1 ⟨v, rfl, hv, hbl⟩
  obtain ⟨A1, c1, rfl, -⟩ := Kd.R_reads hv
  have HV := Aside0.mk hv
  have HB := Aside0.mk hbl
  clear hv hbl
  go_wp2
  go_ret
  have hv := HV.out
  have hsz := HB.out.size
  obtain ⟨-, hlc, hC⟩ := Kd.R_reads' hv
  have hpt : ∀ i, Pt (.pointer (some ⟨w1.heap.size, 0, none⟩)) i → i = w1.heap.size := fun i hi => by
    have : w1.heap.size = i := by simpa [Pt] using hi
    exact this.symm
  refine ⟨w1.heap.size, rfl, .inr ⟨w1.heap.size, A1, c1, rfl, ⟨heap_alloc_new w1 _, hlc, ⟨Kd.C_alloc hC _, fun hp a ha => ?_⟩, fun hn => hn.2.2 rfl, (fun h => by cases h), HBY.out⟩, fun hp a ha => ?_⟩, fun i hi => ?_, below_alloc HB.out _⟩
  · have h1 := Kd.R_base hv a.block (by subst ha; rfl)
    have h2 := Kd.R_lt hv a.block (by subst ha; rfl)
    refine ⟨h1, by simp; omega, fun hq => ?_⟩
    have := hpt _ hq
    omega
  · obtain ⟨g, cap, e, _, hgl, cells, hg⟩ := Kd.R_form hv hp
    injection e with e1 _ _
    rw [e1] at ha
    cases ha
    exact ⟨rfl, cells, by simpa using (Below.heap_alloc w1 _ g hgl).trans hg⟩
  · have := hpt i hi
    subst this
    exact ⟨hsz, by simp⟩

-- AUX XR
/-- A reader of the call's own: what it has left, is it bad. -/
def rdR : Repr (List Int × Bool) := ⟨fun w S h x => ∃ T : Nat → Prop, Rd w T h x.1 x.2 ∧ (∀ i, T i → S i) ∧ ∀ i, Pt h i → S i, fun ⟨T, x, h1, h2⟩ k hd => ⟨T, x.only k (fun i hi => hd i (h1 i hi)) (fun i hi => hd i (h2 i hi)), h1, h2⟩⟩
theorem Cx.rd {B : Nat} {w0 w : World} {m r : List Asr} {h : Value} {x x2 : List Int × Bool} {P : Program} {f : FuncId} {args : Array Value} {v : Value} (H : Cx B w0 w m) (k : At m (.own rdR h x) r)
    (hc : ∀ S : Nat → Prop, (∀ i, S i → i < w.heap.size) → Rd w S h x.1 x.2 → Calls P f args w (fun e w' => e = .returned v ∧ RdTo w w' S h x2.1 x2.2)) : Calls P f args w fun e w' => e = .returned v ∧ Cx B w0 w' (.own rdR h x2 :: r) := by
  obtain ⟨S, ⟨T, hx, h1, h2⟩, hs, _, hcl⟩ := (H.find k).open_
  refine (hc T (fun i hi => (hs i (h1 i hi)).2) hx).mono ?_
  rintro e w' ⟨rfl, hy⟩
  exact ⟨rfl, hcl w' [.own rdR h x2] ⟨hy.only.os, hy.only.tape, hy.only.output, hy.only.size, fun i hi hn => hy.only.block i hi (fun hp => hn (h2 i hp))⟩ ⟨S, ⟨T, hy.rd, h1, h2⟩, fun _ h => .inl h, trivial⟩⟩
theorem rd_new {B : Nat} {w0 w : World} {m : List Asr} (A : Option Addr) (n c : Nat) (l : List Int) (H : Cx B w0 w m) (hr : Kd.C (Kd.int .u8) w A n l) (hb : ∀ x ∈ l, 0 ≤ x ∧ x < 256) (hl : l.length < 140737488355328) :
    Calls Try.prog 31 #[.slice A n c] w fun e w' => ∃ p, e = .returned (.pointer (some ⟨p, 0, none⟩)) ∧ Cx B w0 w' (.own rdR (.pointer (some ⟨p, 0, none⟩)) (l, false) :: m) := by
  obtain rfl := hr.1
  refine (wire_NewReader.calls A c l w hr hb hl).mono ?_
  rintro e w' ⟨p, rfl, hx⟩
  exact ⟨p, rfl, H.join (n := [.own rdR (.pointer (some ⟨p, 0, none⟩)) (l, false)]) ⟨hx.below, hx.below.size, ⟨_, ⟨_, hx.rd, fun i hi => ⟨hi.1, hi.2.1⟩, hx.pt⟩, fun _ h => h, trivial⟩⟩⟩

-- AUX rm
/-- The document's reader at q: what it has left. -/
def Rm (w : World) (S : Nat → Prop) (q : Nat) (l : List Int) (bad : Bool) : Prop := ∃ A c, Cur 90 w S q A c l bad
theorem Rm.only {w w' : World} {S T : Nat → Prop} {q : Nat} {l : List Int} {bad : Bool} (x : Rm w S q l bad) (o : Only w w' T) (hd : ∀ i, S i → ¬ T i) (hp : ¬ T q) : Rm w' S q l bad := by
  obtain ⟨A, c, x⟩ := x
  exact ⟨A, c, x.only o hd hp⟩
theorem Rm.below {w w' : World} {S : Nat → Prop} {q : Nat} {l : List Int} {bad : Bool} (x : Rm w S q l bad) (k : Below w.heap.size w w') : Rm w' S q l bad := x.only (Only.of_below k (fun _ => False)) (fun _ _ h => h) (fun h => h)
theorem Rm.byt {w : World} {S : Nat → Prop} {q : Nat} {l : List Int} {bad : Bool} (x : Rm w S q l bad) : ∀ x ∈ l, 0 ≤ x ∧ x < 256 := by
  obtain ⟨A, c, x⟩ := x
  exact x.byt
theorem Rm.lt {w : World} {S : Nat → Prop} {q : Nat} {l : List Int} {bad : Bool} (x : Rm w S q l bad) : q < w.heap.size := by
  obtain ⟨A, c, x⟩ := x
  exact blk_size x.str
structure RmTo (w w' : World) (S : Nat → Prop) (q : Nat) (l : List Int) (bad : Bool) : Prop where
  rm : Rm w' S q l bad
  only : Only w w' (fun i => i = q)
theorem RmTo.then_ {w w1 w2 : World} {S : Nat → Prop} {q : Nat} {l l2 : List Int} {bad bad2 : Bool} (x : RmTo w w1 S q l bad) (y : RmTo w1 w2 S q l2 bad2) : RmTo w w2 S q l2 bad2 := ⟨y.rm, x.only.same y.only⟩
theorem RmTo.refl {w : World} {S : Nat → Prop} {q : Nat} {l : List Int} {bad : Bool} (x : Rm w S q l bad) : RmTo w w S q l bad := ⟨x, Only.refl _ _⟩
/-- The row goes on by m bytes. -/
theorem rm_cut {w w1 : World} {S : Nat → Prop} {q : Nat} {A : Option Addr} {c m : Nat} {l : List Int} {bad : Bool} (x : Cur 90 w S q A c l bad) (hm : m ≤ l.length) {A2 : Option Addr} (hA2 : A2 = if c = m then A else A.map (·.add m)) (k : Below w.heap.size w w1) :
    RmTo w (w1.setCell ⟨q, 0, none⟩ (.slice A2 (l.length - m) (c - m))) S q (l.drop m) bad := by
  have x1 := x.only (Only.of_below k (fun _ => False)) (fun _ _ h => h) (fun h => h)
  have o : Only w (w1.setCell ⟨q, 0, none⟩ (.slice A2 (l.length - m) (c - m))) (fun i => i = q) := (Only.of_below k (fun i => i = q)).setCell (p := ⟨q, 0, none⟩) (.inl rfl) _
  have o1 : Only w1 (w1.setCell ⟨q, 0, none⟩ (.slice A2 (l.length - m) (c - m))) (fun i => i = q) := (Only.refl w1 (fun i => i = q)).setCell (p := ⟨q, 0, none⟩) (.inl rfl) _
  have hS : ∀ i, S i → ¬ i = q := fun i hi he => by subst he; exact x.ne hi
  have e1 := setCell_here x1.str 0 (.slice A2 (l.length - m) (c - m))
  generalize w1.setCell ⟨q, 0, none⟩ (.slice A2 (l.length - m) (c - m)) = w2 at *
  have r1 := x1.row.only o1 hS
  have hld : (l.drop m).length = l.length - m := List.length_drop
  have hlen := x.len
  have rD : Rb w2 S A2 (l.drop m) := by
    subst hA2
    have := Kd.C_drop (m := m) r1.row hm x.len
    refine ⟨by simpa [Kd.int, Kd.scalar] using this, fun hp a ha => ?_⟩
    rw [if_neg (by omega)] at ha
    rcases A with _ | a0
    · cases ha
    · simp only [Option.map_some, Option.some.injEq] at ha
      subst ha
      rw [add_blk]
      exact r1.blk (by omega) a0 rfl
  refine ⟨⟨A2, c - m, by rw [hld]; exact e1, by omega, rD, x.ne, fun hb => ?_, fun z hz => x.byt z (List.mem_of_mem_drop hz)⟩, o⟩
  have := x.z hb
  subst this
  simp

-- AUX segw
theorem add_at (a : Addr) (hs : a.spot = none) (k : Nat) : a.add k = ⟨a.block, a.off + k, none⟩ := by
  obtain ⟨b, o, s⟩ := a
  simp only at hs
  subst hs
  unfold Addr.add
  split <;> simp_all
theorem setCell_cell_ne {w : World} {b o : Nat} {u : Value} {cs : Array Value} {t : Nat} (hb : w.heap[b]? = some (.cells cs t (0, 0))) (p : Addr) (hp : p ≠ ⟨b, o, none⟩) : (w.setCell ⟨b, o, none⟩ u).cell? p = w.cell? p := by
  by_cases e : p.block = b
  · have h1 := setCell_here hb o u
    obtain ⟨pb, po, ps⟩ := p
    simp only at e
    subst e
    simp only [World.cell?, h1, hb]
    rcases ps with _ | s
    · have : po ≠ o := fun h => hp (by rw [h])
      simp [Array.getElem?_setIfInBounds, Ne.symm this]
    · rfl
  · exact cell_same (Below.heap_setCell w ⟨b, o, none⟩ u p.block e) p rfl
theorem Seg.set {w w' : World} {ad : Addr} {n k : Nat} (x : Seg w w' (some ad) n) (hs : ad.spot = none) (hk : k < n) {cs : Array Value} {t : Nat} (hb : w.heap[ad.block]? = some (.cells cs t (0, 0))) (u : Value) : Seg w (w'.setCell (ad.add k) u) (some ad) n := by
  obtain ⟨cs', hb'⟩ := x.kind ad rfl cs t hb
  rw [add_at ad hs]
  refine ⟨x.os, x.tape, x.output, by simp only [World.setCell, Array.size_modify]; exact x.size, fun i hi => ?_, fun a ha p hp hne => ?_, fun a ha cs0 t0 h0 => ?_⟩
  · exact (Below.heap_setCell w' ⟨ad.block, ad.off + k, none⟩ u i (hi (by omega) ad rfl)).trans (x.block i hi)
  · cases ha
    rw [setCell_cell_ne hb' p (by rw [← add_at ad hs]; exact hne k hk)]
    exact x.cell ad rfl p hp hne
  · cases ha
    rw [hb] at h0
    injection h0 with h0
    injection h0 with _ h2 _
    subst h2
    exact ⟨_, setCell_here hb' _ u⟩

/-! ### wire_Reader_fail: function 48 -/
theorem wire_Reader_fail.calls (S : Nat → Prop) (p : Nat) (A : Option Addr) (c : Nat) (l : List Int) (bad : Bool) (w : World) (hr : Cur 86 w S p A c l bad) :
    Calls Try.prog 48 #[.pointer (some ⟨p, 0, none⟩)] w fun e w' => e = .returned (.tuple #[]) ∧ RdTo w w' S (.pointer (some ⟨p, 0, none⟩)) [] true := by
  have hb := hr.str
  have h0 : w.cell? ⟨p, 0, none⟩ = some (.slice A l.length c) := by rw [cell_of hb]; rfl
  have h1 : w.cell? ⟨p, 1, none⟩ = some (.bool bad) := by rw [cell_of hb]; rfl
  have f0 := frozen_of hb 0
  have f1 := frozen_of hb 1
  have HB := Aside0.mk hb
  have hne := hr.ne
  clear hr hb
  go_enter Try.func48, Try.ntmps48
  go_wp2
  go_end0
  have e1 := setCell_here HB.out 0 (.slice none 0 0)
  have e2 := setCell_here e1 1 (.bool true)
  refine ⟨rfl, .inr ⟨p, none, 0, rfl, ⟨e2, by simp, ⟨Kd.C_nil _ _, fun h => absurd h (by simp)⟩, hne, fun _ => rfl, by simp⟩, fun h => absurd h (by simp)⟩, ?_⟩
  exact ((Only.refl w _).setCell (p := ⟨p, 0, none⟩) (.inl (show Pt _ p from rfl)) _).setCell (p := ⟨p, 1, none⟩) (.inl (show Pt _ p from rfl)) _

-- AUX tookw
/-- What a taking leaves: the row taken (b, at A), the rest, which stays where b is written over. -/
structure TookTo (w w' : World) (S : Nat → Prop) (h : Value) (A : Option Addr) (b r : List Int) : Prop where
  row : Rb w' S A b
  nf : Nf w' A b
  rdto : RdTo w w' S h r false
  stab : RdX w' S h r false A b.length
theorem add_add (a : Addr) (hs : a.spot = none) (i j : Nat) : (a.add i).add j = a.add (i + j) := by
  obtain ⟨b, o, s⟩ := a
  simp only at hs
  subst hs
  rw [show (⟨b, o, none⟩ : Addr).add i = ⟨b, o + i, none⟩ by unfold Addr.add; split <;> simp_all]
  rw [show (⟨b, o + i, none⟩ : Addr).add j = ⟨b, o + i + j, none⟩ by unfold Addr.add; split <;> simp_all]
  rw [show (⟨b, o, none⟩ : Addr).add (i + j) = ⟨b, o + (i + j), none⟩ by unfold Addr.add; split <;> simp_all]
  rw [Nat.add_assoc]
theorem add_inj (a : Addr) (hs : a.spot = none) (i j : Nat) (h : a.add i = a.add j) : i = j := by
  obtain ⟨b, o, s⟩ := a
  simp only at hs
  subst hs
  rw [show (⟨b, o, none⟩ : Addr).add i = ⟨b, o + i, none⟩ by unfold Addr.add; split <;> simp_all, show (⟨b, o, none⟩ : Addr).add j = ⟨b, o + j, none⟩ by unfold Addr.add; split <;> simp_all] at h
  injection h with _ h _
  omega
theorem add_spot (a : Addr) (hs : a.spot = none) (i : Nat) : (a.add i).spot = none := by
  obtain ⟨b, o, s⟩ := a
  simp only at hs
  subst hs
  rw [show (⟨b, o, none⟩ : Addr).add i = ⟨b, o + i, none⟩ by unfold Addr.add; split <;> simp_all]
theorem took_of {w : World} {S : Nat → Prop} {p : Nat} {A : Option Addr} {c m : Nat} {l : List Int} (x : Cur 86 w S p A c l false) (y : Nf w A l) (hm : m ≤ l.length) {A2 : Option Addr} (hA2 : A2 = if c = m then A else A.map (·.add m)) :
    TookTo w (w.setCell ⟨p, 0, none⟩ (.slice A2 (l.length - m) (c - m))) S (.pointer (some ⟨p, 0, none⟩)) A (l.take m) (l.drop m) := by
  have o : Only w (w.setCell ⟨p, 0, none⟩ (.slice A2 (l.length - m) (c - m))) (Pt (.pointer (some ⟨p, 0, none⟩))) := (Only.refl w _).setCell (p := ⟨p, 0, none⟩) (.inl (show Pt _ p from rfl)) _
  have hS : ∀ i, S i → ¬ Pt (.pointer (some ⟨p, 0, none⟩)) i := fun i hi he => by
    have : p = i := by simpa [Pt] using he
    subst this
    exact x.ne hi
  have e1 := setCell_here x.str 0 (.slice A2 (l.length - m) (c - m))
  generalize w.setCell ⟨p, 0, none⟩ (.slice A2 (l.length - m) (c - m)) = w1 at *
  have r1 := x.row.only o hS
  have n1 := y.only x.row o hS
  have hlt : (l.take m).length = m := by rw [List.length_take]; omega
  have hld : (l.drop m).length = l.length - m := List.length_drop
  have hlen := x.len
  have rT : Rb w1 S A (l.take m) := ⟨by have := Kd.C_take (m := m) r1.row hm; exact this, fun hp a ha => r1.blk (by omega) a ha⟩
  have rD : Rb w1 S A2 (l.drop m) := by
    subst hA2
    have := Kd.C_drop (m := m) r1.row hm x.len
    refine ⟨by simpa [Kd.int, Kd.scalar] using this, fun hp a ha => ?_⟩
    rw [if_neg (by omega)] at ha
    rcases A with _ | a0
    · cases ha
    · simp only [Option.map_some, Option.some.injEq] at ha
      subst ha
      rw [add_blk]
      exact r1.blk (by omega) a0 rfl
  have nD : Nf w1 A2 (l.drop m) := fun hp a ha => by
    subst hA2
    rw [if_neg (by omega)] at ha
    rcases A with _ | a0
    · cases ha
    · simp only [Option.map_some, Option.some.injEq] at ha
      subst ha
      obtain ⟨q1, q2⟩ := n1 (by omega) a0 rfl
      exact ⟨add_spot a0 q1 m, by rw [add_blk]; exact q2⟩
  have str1 : w1.heap[p]? = some (.cells #[.slice A2 (l.drop m).length (c - m), .bool false] 86 (0, 0)) := by rw [hld]; exact e1
  have byt1 : ∀ x ∈ l.drop m, 0 ≤ x ∧ x < 256 := fun z hz => x.byt z (List.mem_of_mem_drop hz)
  refine ⟨rT, fun hp a ha => n1 (by omega) a ha, ⟨.inr ⟨p, A2, c - m, rfl, ⟨str1, by omega, rD, x.ne, fun h => (by cases h), byt1⟩, nD⟩, o⟩, .inr ⟨p, A2, c - m, rfl, ⟨str1, by omega, rD, x.ne, fun h => (by cases h), byt1⟩, nD, fun hp a ha e => x.ne (by rw [e]; exact rT.blk hp a ha), fun ad a he ha i hi j hj e => ?_⟩⟩
  have hA := hA2
  rw [if_neg (by omega), ha, he] at hA
  simp only [Option.map_some, Option.some.injEq] at hA
  subst hA
  obtain ⟨q1, q2⟩ := n1 (by omega) a ha
  rw [add_add a q1] at e
  have := add_inj a q1 _ _ e
  omega

-- AUX orw
theorem sumN_bd (b : List Int) (hb : ∀ x ∈ b, 0 ≤ x ∧ x < 256) (k : Nat) : 0 ≤ sumN b k ∧ sumN b k < 2 ^ (8 * k) := by
  induction k with
  | zero => simp [sumN]
  | succ k ih =>
    have hr : 0 ≤ rd b k ∧ rd b k < 256 := by
      unfold rd
      rw [Int.toNat_natCast, List.getD_eq_getElem?_getD]
      by_cases h : k < b.length
      · simp only [List.getElem?_eq_getElem h, Option.getD_some]
        exact hb _ (List.getElem_mem h)
      · simp [List.getElem?_eq_none (Nat.le_of_not_lt h)]
    have hp : (2 : Int) ^ (8 * (k + 1)) = 256 * 2 ^ (8 * k) := by
      rw [show 8 * (k + 1) = 8 + 8 * k by omega, Int.pow_add]; rfl
    have h0 : (0 : Int) < 2 ^ (8 * k) := Int.pow_pos (by decide)
    unfold sumN
    rw [hp]
    generalize (2 : Int) ^ (8 * k) = P at *
    generalize rd b k = c at *
    refine ⟨Int.add_nonneg ih.1 (Int.mul_nonneg hr.1 (by omega)), ?_⟩
    have : c * P ≤ 255 * P := Int.mul_le_mul_of_nonneg_right (by omega) (by omega)
    omega
/-- A byte is put above what is there. -/
theorem or_step (s c : Int) (k : Nat) (hk : k < 8) (h0 : 0 ≤ s) (h1 : s < 2 ^ (8 * k)) (c0 : 0 ≤ c) (c1 : c < 256) : bits .or .i64 s (IntKind.i64.wrap (c * 2 ^ (8 * k))) = IntKind.i64.wrap (s + c * 2 ^ (8 * k)) := by
  have hw : ∀ x : Int, BitVec.ofInt 64 (IntKind.i64.wrap x) = BitVec.ofInt 64 x := by
    intro x
    apply BitVec.eq_of_toInt_eq
    rw [BitVec.toInt_ofInt, BitVec.toInt_ofInt]
    simp only [IntKind.wrap, IntKind.bits, IntKind.signed, Int.bmod]
    simp
    split <;> split <;> split <;> omega
  show IntKind.i64.wrap (((BitVec.ofInt 64 s ||| BitVec.ofInt 64 (IntKind.i64.wrap (c * 2 ^ (8 * k)))).toNat : Nat) : Int) = _
  rw [hw]
  obtain ⟨S, rfl⟩ := Int.eq_ofNat_of_zero_le h0
  obtain ⟨C, rfl⟩ := Int.eq_ofNat_of_zero_le c0
  have hS : S < 2 ^ (8 * k) := by exact_mod_cast h1
  have hC : C < 256 := by omega
  have e1 : ((C : Int) * 2 ^ (8 * k)) = ((C * 2 ^ (8 * k) : Nat) : Int) := by push_cast; rfl
  have hp : 2 ^ (8 * k) * 256 ≤ 2 ^ 64 := by
    rw [show (256 : Nat) = 2 ^ 8 by rfl, ← Nat.pow_add]
    exact Nat.pow_le_pow_right (by decide) (by omega)
  have hCP : C * 2 ^ (8 * k) ≤ 255 * 2 ^ (8 * k) := Nat.mul_le_mul_right _ (by omega)
  rw [e1, BitVec.ofInt_natCast, BitVec.ofInt_natCast, BitVec.toNat_or, BitVec.toNat_ofNat, BitVec.toNat_ofNat, Nat.mod_eq_of_lt (by omega), Nat.mod_eq_of_lt (by omega), Nat.or_comm, nat_join (8 * k) _ _ (by simp) hS]
  congr 1
  push_cast
  omega
theorem wrap_i64 (n : Int) : IntKind.i64.wrap n = wrap64 n := by
  simp only [IntKind.wrap, IntKind.bits, IntKind.signed, wrap64]
  simp
  split <;> omega
def accN (b : List Int) (k : Nat) : Int := wrap64 (sumN b k)
theorem accN_zero (b : List Int) : accN b 0 = 0 := by simp [accN, sumN, wrap64]
theorem rd_bd {b : List Int} (hb : ∀ x ∈ b, 0 ≤ x ∧ x < 256) (k : Nat) (h : k < b.length) : 0 ≤ rd b k ∧ rd b k < 256 := by
  unfold rd
  rw [Int.toNat_natCast, List.getD_eq_getElem?_getD, List.getElem?_eq_getElem h, Option.getD_some]
  exact hb _ (List.getElem_mem h)
theorem accN_small (b : List Int) (hb : ∀ x ∈ b, 0 ≤ x ∧ x < 256) (k : Nat) (hk : k < 8) : accN b k = sumN b k := by
  have h := sumN_bd b hb k
  have hp : (2 : Int) ^ (8 * k) ≤ 2 ^ 56 := by
    have := Nat.pow_le_pow_right (n := 2) (by decide) (show 8 * k ≤ 56 by omega)
    exact_mod_cast this
  have : (2 : Int) ^ 56 = 72057594037927936 := by decide
  unfold accN wrap64
  omega
theorem accN_step (b : List Int) (hb : ∀ x ∈ b, 0 ≤ x ∧ x < 256) (k : Nat) (hk : k < 8) (hl : k < b.length) : bits .or .i64 (accN b k) (wrap64 (rd b k * 2 ^ (8 * k))) = accN b (k + 1) := by
  have h := sumN_bd b hb k
  have hr : 0 ≤ rd b k ∧ rd b k < 256 := by
    unfold rd
    rw [Int.toNat_natCast, List.getD_eq_getElem?_getD, List.getElem?_eq_getElem hl, Option.getD_some]
    exact hb _ (List.getElem_mem hl)
  rw [← wrap_i64, accN_small b hb k hk, or_step _ _ k hk h.1 h.2 hr.1 hr.2, wrap_i64]
  rfl

/-! ### wire_Reader_take: function 43 -/
theorem wire_Reader_take.no (S : Nat → Prop) (h : Value) (l : List Int) (bad : Bool) (n : Int) (w : World) (hr : Rd w S h l bad) (hn : tkS n l bad = none) :
    Calls Try.prog 43 #[h, .int .i64 n] w fun e w' => e = .returned (.tuple #[.slice none 0 0, .bool false]) ∧ RdTo w w' S h [] true := by
  have hc := tkS_none hn
  clear hn
  rcases hr with ⟨rfl, rfl, rfl⟩ | ⟨p, A, c, rfl, x, y⟩
  · clear hc
    go_enter Try.func43, Try.ntmps43
    go_wp2
    go_ret2
    exact ⟨rfl, RdTo.refl (.inl ⟨rfl, rfl, rfl⟩)⟩
  · have hb := x.str
    have h0 : w.cell? ⟨p, 0, none⟩ = some (.slice A l.length c) := by rw [cell_of hb]; rfl
    have h1 : w.cell? ⟨p, 1, none⟩ = some (.bool bad) := by rw [cell_of hb]; rfl
    have hm := x.row.row.2.1
    have X := Aside0.mk x
    have Y := Aside0.mk y
    clear hb
    rcases bad with _ | _
    · rcases hc with hc | hc
      · cases hc
      · clear x y
        by_cases hneg : n < 0
        · clear hc
          go_enter Try.func43, Try.ntmps43
          go_wp2_with fail
          refine (wire_Reader_fail.calls S p A c l false _ X.out).mono ?_
          rintro e w1 ⟨rfl, hx⟩
          go_wp2
          go_ret2
          exact ⟨rfl, hx⟩
        · have hgt : n > (l.length : Int) := by omega
          clear hc
          go_enter Try.func43, Try.ntmps43
          go_wp2_with fail
          refine (wire_Reader_fail.calls S p A c l false _ X.out).mono ?_
          rintro e w1 ⟨rfl, hx⟩
          go_wp2
          go_ret2
          exact ⟨rfl, hx⟩
    · have hl := x.z rfl
      subst hl
      clear hc x y
      go_enter Try.func43, Try.ntmps43
      go_wp2
      go_ret2
      exact ⟨rfl, RdTo.refl (.inr ⟨p, A, c, rfl, X.out, Y.out⟩)⟩

-- AUX takeyes
theorem take_yes (S : Nat → Prop) (h : Value) (l : List Int) (bad : Bool) (n : Int) (b r : List Int) (w : World) (hr : Rd w S h l bad) (hn : tkS n l bad = some (b, r)) :
    Calls Try.prog 43 #[h, .int .i64 n] w fun e w' => ∃ A', e = .returned (.tuple #[.slice A' b.length b.length, .bool true]) ∧ TookTo w w' S h A' b r := by
  obtain ⟨rfl, h0, h1, rfl, rfl⟩ := tkS_some hn
  clear hn
  obtain ⟨m, rfl⟩ := Int.eq_ofNat_of_zero_le h0
  rw [Int.toNat_natCast]
  have hm : m ≤ l.length := by omega
  rw [show (l.take m).length = m by rw [List.length_take]; omega]
  rcases hr with ⟨rfl, rfl, h⟩ | ⟨p, A, c, rfl, x, y⟩
  · cases h
  · have hb := x.str
    have h0 : w.cell? ⟨p, 0, none⟩ = some (.slice A l.length c) := by rw [cell_of hb]; rfl
    have h1 : w.cell? ⟨p, 1, none⟩ = some (.bool false) := by rw [cell_of hb]; rfl
    have f0 := frozen_of hb 0
    have hmx := x.row.row.2.1
    have hlc := x.len
    have HT := Aside0.mk (fun A2 hA2 => took_of (m := m) (A2 := A2) x y hm hA2)
    clear hb x y
    by_cases hcm : c = m
    · have HT2 := HT.out A (by rw [if_pos hcm])
      subst hcm
      rw [Nat.sub_self, show l.length - c = 0 by omega] at HT2
      have HT3 := Aside0.mk HT2
      clear HT HT2
      go_enter Try.func43, Try.ntmps43
      go_wp2
      go_ret2
      exact ⟨A, rfl, HT3.out⟩
    · have HT2 := HT.out _ (by rw [if_neg hcm])
      have HT3 := Aside0.mk HT2
      have hlt : m < c := by omega
      clear HT HT2
      go_enter Try.func43, Try.ntmps43
      go_wp2
      go_ret2
      exact ⟨A, rfl, HT3.out⟩

/-! ### wire_Reader_Byte: function 32 -/
theorem wire_Reader_Byte.calls (S : Nat → Prop) (h : Value) (l : List Int) (bad : Bool) (w : World) (hr : Rd w S h l bad) :
    Calls Try.prog 32 #[h] w fun e w' => e = .returned (.int .u8 (byteS l bad).1) ∧ RdTo w w' S h (byteS l bad).2.1 (byteS l bad).2.2 := by
  rcases htk : tkS 1 l bad with _ | ⟨b, r⟩
  · have hb : byteS l bad = (0, [], true) := by unfold byteS; rw [htk]
    have HT := Aside0.mk (fun W (q : Rd W S h l bad) => wire_Reader_take.no S h l bad 1 W q htk)
    rw [hb]
    have HR := Aside0.mk hr
    clear htk hb hr
    go_enter Try.func32, Try.ntmps32
    go_wp2_with fail
    refine (HT.out _ HR.out).mono ?_
    rintro e w1 ⟨rfl, hx⟩
    go_wp2
    go_ret
    exact ⟨rfl, hx⟩
  · have hb : byteS l bad = (rd b 0, r, false) := by unfold byteS; rw [htk]
    have HT := Aside0.mk (fun W (q : Rd W S h l bad) => take_yes S h l bad 1 b r W q htk)
    have hbl : b.length = 1 := by
      obtain ⟨_, q1, q2, rfl, rfl⟩ := tkS_some htk
      rw [List.length_take]; omega
    rw [hb]
    have HBL := Aside0.mk hbl
    have HR := Aside0.mk hr
    have hb0 : 0 < b.length := by omega
    clear htk hb hr hbl
    go_enter Try.func32, Try.ntmps32
    go_wp2_with fail
    refine (HT.out _ HR.out).mono ?_
    rintro e w1 ⟨A, rfl, hx⟩
    have HX := Aside0.mk hx
    obtain ⟨ad, e, hc⟩ := C_cells hx.row.row hb0
    subst e
    have hc0 : w1.cell? ad = some (.int .u8 (rd b 0)) := by have := hc 0 hb0; rw [add_zero_] at this; exact this
    clear hc hx
    go_wp2
    go_ret
    exact ⟨rfl, HX.out.rdto⟩

-- AUX XRb
theorem rd_byte {B : Nat} {w0 w : World} {m r : List Asr} {h : Value} {x : List Int × Bool} (H : Cx B w0 w m) (k : At m (.own rdR h x) r) :
    Calls Try.prog 32 #[h] w fun e w' => e = .returned (.int .u8 (byteS x.1 x.2).1) ∧ Cx B w0 w' (.own rdR h (byteS x.1 x.2).2 :: r) :=
  H.rd k (fun S _ hx => wire_Reader_Byte.calls S h x.1 x.2 w hx)

/-! ### wire_Reader_Num: function 33 -/
theorem wire_Reader_Num.calls (S : Nat → Prop) (h : Value) (l : List Int) (bad : Bool) (w : World) (hr : Rd w S h l bad) :
    Calls Try.prog 33 #[h] w fun e w' => e = .returned (.int .i64 (numS l bad).1) ∧ RdTo w w' S h (numS l bad).2.1 (numS l bad).2.2 := by
  rcases htk : tkS 8 l bad with _ | ⟨b, r⟩
  · have hb : numS l bad = (0, [], true) := by unfold numS; rw [htk]
    have HT := Aside0.mk (fun W (q : Rd W S h l bad) => wire_Reader_take.no S h l bad 8 W q htk)
    rw [hb]
    have HR := Aside0.mk hr
    clear htk hb hr
    go_enter Try.func33, Try.ntmps33
    go_wp2_with fail
    refine (HT.out _ HR.out).mono ?_
    rintro e w1 ⟨rfl, hx⟩
    go_wp2
    go_ret
    exact ⟨rfl, hx⟩
  · have hb : numS l bad = (unL b, r, false) := by unfold numS; rw [htk]
    have HT := Aside0.mk (fun W (q : Rd W S h l bad) => take_yes S h l bad 8 b r W q htk)
    have hbb := hr.byt
    have hbl : b.length = 8 ∧ ∀ x ∈ b, 0 ≤ x ∧ x < 256 := by
      obtain ⟨_, q1, q2, rfl, rfl⟩ := tkS_some htk
      refine ⟨by rw [List.length_take]; omega, fun x hx => hbb x (List.mem_of_mem_take hx)⟩
    rw [hb]
    have HBL := Aside0.mk hbl
    have HR := Aside0.mk hr
    have hb0 : b.length ≤ 8 := by omega
    have hb1 : 8 ≤ b.length := by omega
    clear htk hb hr hbl hbb
    go_enter Try.func33, Try.ntmps33
    go_wp2_with fail
    refine (HT.out _ HR.out).mono ?_
    rintro e w1 ⟨A, rfl, hx⟩
    have HX := Aside0.mk hx
    obtain ⟨ad, e, hc⟩ := C_cells hx.row.row (by omega)
    subst e
    have HC := Aside0.mk hc
    clear hc hx
    go_wp2
    go_loop [5, 17, 6, 7] (fun v5 v17 _ _ => ∃ k : Nat, k ≤ b.length ∧ v17 = .int .i64 k ∧ v5 = .int .i64 (accN b k)) (fun _ v17 _ _ => b.length - (intOf v17).toNat)
    case atStart => exact ⟨0, by omega, rfl, by rw [accN_zero]⟩
    case round =>
      obtain ⟨k, hk, rfl, rfl⟩ := hrel
      by_cases hlt : k < b.length
      · have hx := HC.out k hlt
        obtain ⟨r0, r1⟩ := rd_bd HBL.out.2 k hlt
        have hs := accN_step b HBL.out.2 k (by omega) hlt
        have HS := Aside0.mk hs
        have q1 : IntKind.i64.wrap (8 * (k : Int)) = 8 * (k : Int) := IntWalk.i64_in _ (by omega)
        have q2 : (8 * (k : Int)).toNat = 8 * k := by omega
        have q3 : (0 : Int) ≤ 8 * (k : Int) := by omega
        clear hs
        go_wp2
        refine ⟨⟨k + 1, by omega, by go_num, ?_⟩, by simp [intOf]; omega⟩
        rw [← HS.out]
      · obtain rfl : k = b.length := by omega
        go_wp2
        go_ret
        have e8 := HBL.out.1
        rw [e8]
        exact ⟨rfl, HX.out.rdto⟩

-- AUX rdlt
theorem Rd.lt {w : World} {S : Nat → Prop} {h : Value} {l : List Int} {bad : Bool} (x : Rd w S h l bad) : ∀ i, Pt h i → i < w.heap.size := by
  rintro i hi
  rcases x with ⟨rfl, _, _⟩ | ⟨p, A, c, rfl, x, y⟩
  · cases hi
  · have : p = i := by simpa [Pt] using hi
    subst this
    exact blk_size x.str
theorem numS_len (l : List Int) (bad : Bool) : (numS l bad).2.1.length ≤ l.length := by
  unfold numS
  split
  · rename_i b r h
    obtain ⟨_, _, _, _, rfl⟩ := tkS_some h
    simp
  · simp

-- AUX XRn
theorem rd_num {B : Nat} {w0 w : World} {m r : List Asr} {h : Value} {x : List Int × Bool} (H : Cx B w0 w m) (k : At m (.own rdR h x) r) :
    Calls Try.prog 33 #[h] w fun e w' => e = .returned (.int .i64 (numS x.1 x.2).1) ∧ Cx B w0 w' (.own rdR h (numS x.1 x.2).2 :: r) :=
  H.rd k (fun S _ hx => wire_Reader_Num.calls S h x.1 x.2 w hx)

-- AUX numback
theorem emod_step (n P : Int) (hP : 0 < P) : n % (256 * P) = n % P + n / P % 256 * P := by
  have h1 := Int.mul_ediv_add_emod n P
  have h2 := Int.mul_ediv_add_emod (n / P) 256
  have h3 := Int.emod_nonneg n (show P ≠ 0 by omega)
  have h4 := Int.emod_lt_of_pos n hP
  have h5 : 0 ≤ n / P % 256 := by omega
  have h6 : n / P % 256 ≤ 255 := by omega
  generalize n / P % 256 = r at *
  have e : n = (n % P + r * P) + 256 * P * (n / P / 256) := by
    have : P * (n / P) = P * (256 * (n / P / 256)) + P * r := by rw [← Int.mul_add, h2]
    have e2 : 256 * P * (n / P / 256) = P * (256 * (n / P / 256)) := by rw [Int.mul_comm 256 P, Int.mul_assoc]
    rw [e2, Int.mul_comm r P]
    omega
  have h7 : r * P ≤ 255 * P := Int.mul_le_mul_of_nonneg_right h6 (by omega)
  have h8 : 0 ≤ r * P := Int.mul_nonneg h5 (by omega)
  rw [e, Int.add_mul_emod_self_left, Int.emod_eq_of_lt (by omega) (by omega), ← e]
theorem sumN_num (n : Int) : ∀ k : Nat, k ≤ 8 → sumN (numL n) k = n % 2 ^ (8 * k) := by
  intro k
  induction k with
  | zero => intro _; simp [sumN]
  | succ k ih =>
    intro hk
    have hr : rd (numL n) (k : Int) = n / 2 ^ (8 * k) % 256 := by simp [rd, numL, show k < 8 by omega]
    have hp : (2 : Int) ^ (8 * (k + 1)) = 256 * 2 ^ (8 * k) := by rw [show 8 * (k + 1) = 8 + 8 * k by omega, Int.pow_add]; rfl
    rw [sumN, ih (by omega), hr, hp, emod_step n _ (Int.pow_pos (by decide))]
theorem unL_num (n : Int) (h1 : -9223372036854775808 ≤ n) (h2 : n ≤ 9223372036854775807) : unL (numL n) = n := by
  unfold unL
  rw [sumN_num n 8 (by omega), show (2 : Int) ^ (8 * 8) = 18446744073709551616 by decide]
  unfold wrap64
  omega

/-! ### wire_Reader_Left: function 34 -/
theorem wire_Reader_Left.calls (S : Nat → Prop) (h : Value) (l : List Int) (bad : Bool) (w : World) (hr : Rd w S h l bad) :
    Calls Try.prog 34 #[h] w fun e w' => e = .returned (.int .i64 l.length) ∧ w = w' := by
  rcases hr with ⟨rfl, rfl, rfl⟩ | ⟨p, A, c, rfl, x, y⟩
  · skip
    go_enter Try.func34, Try.ntmps34
    go_wp2
    go_ret
    exact ⟨rfl, rfl⟩
  · have h0 : w.cell? ⟨p, 0, none⟩ = some (.slice A l.length c) := by rw [cell_of x.str]; rfl
    have hm := x.row.row.2.1
    clear x y
    go_enter Try.func34, Try.ntmps34
    go_wp2
    go_ret
    exact ⟨rfl, rfl⟩

-- AUX XRl
theorem rd_left {B : Nat} {w0 w : World} {m r : List Asr} {h : Value} {x : List Int × Bool} (H : Cx B w0 w m) (k : At m (.own rdR h x) r) :
    Calls Try.prog 34 #[h] w fun e w' => e = .returned (.int .i64 x.1.length) ∧ w = w' := by
  obtain ⟨S, ⟨T, hx, _⟩, _⟩ := H.has k
  exact wire_Reader_Left.calls T h x.1 x.2 w hx

/-! ### box_Open: function 14 -/
set_option maxRecDepth 100000 in
set_option maxHeartbeats 1000000 in
theorem box_Open.calls (s : List Int) (w : World) (hs : s.length = 128) (hb : ∀ x ∈ s, 0 ≤ x ∧ x < 256) : Calls Try.prog 14 #[.agg (u8A s)] w (OpenTo s w) := by
  have H0 := Cx.start w
  have hz := zero_sector
  have hal := @alloc_cell
  have HS := Aside0.mk hs
  have HB := Aside0.mk hb
  have E1 := Aside0.mk (show byteS (s.drop 4) false = (oK s, s.drop 5, false) by rw [byteS_yes _ (by rw [List.length_drop]; omega), rd_drop, List.drop_drop]; rfl)
  have E2 := Aside0.mk (show numS (s.drop 5) false = (oG s, s.drop 13, false) by rw [numS_yes _ (by rw [List.length_drop]; omega), List.drop_drop]; rfl)
  have E3 := Aside0.mk (show numS (s.drop 13) false = (oN s, s.drop 21, false) by rw [numS_yes _ (by rw [List.length_drop]; omega), List.drop_drop]; rfl)
  have E4 := Aside0.mk (show byteS (s.drop 21) false = (oS s, s.drop 22, false) by rw [byteS_yes _ (by rw [List.length_drop]; omega), rd_drop, List.drop_drop]; rfl)
  have hS := rd_bds hb 21 (by omega)
  have hK := rd_bds hb 4 (by omega)
  have hS0 : 0 ≤ oS s := hS.1
  have hS1 : oS s < 256 := hS.2
  obtain ⟨z, hz2⟩ : ∃ z : Nat, oS s = (z : Int) := ⟨(oS s).toNat, by omega⟩
  have HZ := Aside0.mk hz2
  rw [hz2] at E4 hS0 hS1
  have hS1 : z < 256 := by omega
  clear hz2 hS0
  have hK0 : 0 ≤ oK s := hK.1
  have hK1 : oK s < 256 := hK.2
  clear hs hb hS hK
  go_enter Try.func14, Try.ntmps14
  go_wp2_with fail
  ((first | apply Cx.genCall | apply Cx.genCode | apply Cx.genList); (focus ((repeat (with_reducible (first | exact (H0).toS | exact At.here | apply At.there | apply CxS.drewN | apply CxS.drew | apply CxS.alloc | apply CxS.set | apply CxS.setRow))))); clear H0; intro w1 H1)
  (with_reducible refine (rd_new _ 124 124 (s.drop 4) H1 (by have := C_u8A (H1.blk (b := w.heap.size) (by repeat (with_reducible (first | exact At.here | apply At.there)))) (by rw [HS.out]; omega) 4 (by rw [HS.out]; omega); rw [List.length_drop, HS.out] at this; exact this) (fun x hx => HB.out x (List.mem_of_mem_drop hx)) (by rw [List.length_drop, HS.out]; omega)).mono ?_)
  rintro e w2 ⟨p, rfl, H2⟩
  clear H1
  have hc1 := rd_byte H2 (by repeat (with_reducible (first | exact At.here | apply At.there)))
  simp only [E1.out] at hc1
  go_wp2_with fail
  refine hc1.mono ?_
  rintro e w3 ⟨rfl, H3⟩
  clear hc1 H2
  have hc1 := rd_num H3 (by repeat (with_reducible (first | exact At.here | apply At.there)))
  simp only [E2.out] at hc1
  go_wp2_with fail
  refine hc1.mono ?_
  rintro e w4 ⟨rfl, H4⟩
  clear hc1 H3
  have hc1 := rd_num H4 (by repeat (with_reducible (first | exact At.here | apply At.there)))
  simp only [E3.out] at hc1
  go_wp2_with fail
  refine hc1.mono ?_
  rintro e w5 ⟨rfl, H5⟩
  clear hc1 H4
  go_wp2_with fail
  ((first | apply Cx.genCall | apply Cx.genCode | apply Cx.genList); (focus ((repeat (with_reducible (first | exact (H5).toS | exact At.here | apply At.there | apply CxS.drewN | apply CxS.drew | apply CxS.alloc | apply CxS.set | apply CxS.setRow))))); clear H5; intro w6 H6)
  have hc1 := rd_byte H6 (by repeat (with_reducible (first | exact At.here | apply At.there)))
  simp only [E4.out] at hc1
  refine hc1.mono ?_
  rintro e w7 ⟨rfl, H7⟩
  clear hc1 H6
  have hc1 := rd_left H7 (by repeat (with_reducible (first | exact At.here | apply At.there)))
  have hl7 : (s.drop 22).length = 106 := by rw [List.length_drop, HS.out]
  simp only [hl7] at hc1
  clear hl7
  go_wp2_with fail
  refine hc1.mono ?_
  rintro e w8 ⟨rfl, rfl⟩
  have F := (H7).facts; simp only [factsOf, Asr.facts, blkFacts, cellsAre, List.toList_toArray, forall_const, Nat.zero_add, Nat.reduceAdd, and_true, true_and] at F
  by_cases hbig : z > 106
  · have hbd : decide ((106 : Int) < (z : Int)) = true := decide_eq_true (by omega)
    have HO := Aside0.mk (show openO s = none by unfold openO; rw [if_pos (by rw [HZ.out]; omega)])
    go_wp2
    ((try simp only [Exit.inBlock, Exit.then]); (apply Cx.atPost); (focus ((repeat (with_reducible (first | exact (H7).toS | exact At.here | apply At.there | apply CxS.drewN | apply CxS.drew | apply CxS.alloc | apply CxS.set | apply CxS.setRow))))); intro HT)
    try simp only [List.setIfInBounds_toArray, List.set_cons_zero, List.set_cons_succ] at HT
    exact bodyPost_ret (results_ct rfl _ _ (w.heap.size + 1) _ #[.int .i64 0, .int .i64 0, .int .i64 0, .slice none 0 0] (0, 0) _ rfl (HT.blk (by repeat (with_reducible (first | exact At.here | apply At.there)))) Try.underlying33 rfl (by kernel_rfl)) rfl (Or.inl ⟨HO.out, rfl, HT.nil⟩)
  · have hbd : decide ((106 : Int) < (z : Int)) = false := decide_eq_false (by omega)
    have hle : z ≤ 106 := by omega
    clear hbig
    go_wp2_with fail
    refine hc1.mono ?_
    rintro e w8 ⟨rfl, rfl⟩
    clear hc1
    have HDD := Aside0.mk (show oD s = (s.drop 22).take z by unfold oD; rw [HZ.out, Int.toNat_natCast])
    have HDL := Aside0.mk (show ((s.drop 22).take z).length = z by rw [List.length_take, List.length_drop, HS.out]; omega)
    have hsl := fun W => slice_arr (P := Try.prog) W 28 128 5 Try.underlying28 size_u8 w.heap.size 22 (22 + z) 22 (22 + (z : Int)) rfl (by omega) (by omega) (by omega) (by omega)
    have hz22 : 22 + z - 22 = z := by omega
    simp only [hz22, Nat.reduceSub] at hsl
    clear hz22
    go_wp2_with fail
    have hC := Kd.C_take (m := z) (C_u8A (H7.blk (b := w.heap.size) (by repeat (with_reducible (first | exact At.here | apply At.there)))) (by rw [HS.out]; omega) 22 (by rw [HS.out]; omega)) (by rw [List.length_drop, HS.out]; omega)
    rw [HDL.out] at hC
    (with_reducible refine (clone_own _ z 106 _ H7 hC (by rw [HDL.out]; omega)).mono ?_)
    rintro e w8 ⟨v8, rfl, H8⟩
    obtain ⟨A8, c8, rfl, hc8⟩ := H8.slice (by repeat (with_reducible (first | exact At.here | apply At.there)))
    rw [← HDD.out] at H8 hc8 HDL
    simp only [← HDD.out] at H8 ⊢
    clear hC H7 F hsl
    have HDB := Aside0.mk (oD_bd HB.out)
    have hDL := HDL.out
    have HOO := Aside0.mk (show openO s = if sealO (oK s) (oG s) (oN s) (oD s) = (s, none) then some (oK s, oG s, oN s, oD s) else none by unfold openO; rw [if_neg (by rw [HZ.out]; omega)])
    have hgb := unL_bd ((s.drop 5).take 8)
    have hnb := unL_bd ((s.drop 13).take 8)
    have hSL := sealO_len (oK s) (oG s) (oN s) (oD s)
    obtain ⟨⟨S1, er⟩, hSO⟩ : ∃ q, q = sealO (oK s) (oG s) (oN s) (oD s) := ⟨_, rfl⟩
    rw [← hSO] at hSL
    have HSO := Aside0.mk hSO
    have HSL := Aside0.mk hSL
    rw [← hSO] at HOO
    clear hSO hSL
    generalize oD s = d at *
    generalize oK s = k at *
    generalize oG s = g at *
    generalize oN s = n at *
    have F := (H8).facts; simp only [factsOf, Asr.facts, blkFacts, cellsAre, List.toList_toArray, forall_const, Nat.zero_add, Nat.reduceAdd, and_true, true_and] at F
    go_wp2_with fail
    ((first | apply Cx.genCall | apply Cx.genCode | apply Cx.genList); (focus ((repeat (with_reducible (first | exact (H8).toS | exact At.here | apply At.there | apply CxS.drewN | apply CxS.drew | apply CxS.alloc | apply CxS.set | apply CxS.setRow))))); clear H8; intro w9 H9)
    try simp only [List.setIfInBounds_toArray, List.set_cons_zero, List.set_cons_succ] at H9
    clear F
    have hC9 := (H9.row (by repeat (with_reducible (first | exact At.here | apply At.there)))).2.2
    rw [hDL] at hC9
    (with_reducible refine (seal_n k g n A8 z c8 d _ hC9 HDB.out (by omega) S1 er HSO.out).mono ?_)
    rintro e w10 ⟨rfl, hj⟩
    have H10 := H9.join hj
    simp only [List.nil_append] at H10
    clear H9 hj hC9
    have hgt := guard_sector
    rcases er with _ | er
    · by_cases hSs : S1 = s
      · subst hSs
        have heq := fun W => eql_sector S1 S1 HSL.out HSL.out W
        rw [decide_eq_true rfl] at heq
        rw [if_pos rfl] at HOO
        rw [errW_none]
        have F := (H10).facts; simp only [factsOf, Asr.facts, blkFacts, cellsAre, List.toList_toArray, forall_const, Nat.zero_add, Nat.reduceAdd, and_true, true_and] at F
        go_wp2_with (first
          | (((with_reducible refine gate_store (t := 28) (x := .tmp 8) (y := .tmp 42) rfl ?_); (apply Cx.atList); (focus ((repeat (with_reducible (first | exact (H10).toS | exact At.here | apply At.there | apply CxS.drewN | apply CxS.drew | apply CxS.alloc | apply CxS.set | apply CxS.setRow))))); intro HT_; refine wpList_store_row rfl 28 (.tmp 8) (.tmp 42) rfl (w10.heap.size) (u8A S1) rfl rfl _ _ (HT_.blk (by repeat (with_reducible (first | exact At.here | apply At.there)))) (by rw [u8A_size, HSL.out]; exact info_sector) (by rw [z128_sz, u8A_size, HSL.out]) (u8A_one _) ?_; clear HT_); clear F; (apply Cx.genList); (focus ((repeat (with_reducible (first | exact (H10).toS | exact At.here | apply At.there | apply CxS.drewN | apply CxS.drew | apply CxS.alloc | apply CxS.set | apply CxS.setRow))))); clear H10; intro w11 H11; have F := (H11).facts; simp only [factsOf, Asr.facts, blkFacts, cellsAre, List.toList_toArray, forall_const, Nat.zero_add, Nat.reduceAdd, and_true, true_and] at F)
          | ((with_reducible refine gate_load (t := 28) (x := .tmp 8) rfl ?_); (apply Cx.atList); (focus ((repeat (with_reducible (first | exact (H11).toS | exact At.here | apply At.there | apply CxS.drewN | apply CxS.drew | apply CxS.alloc | apply CxS.set | apply CxS.setRow))))); intro HT_; refine wpList_load_row_g rfl 28 (.tmp 8) rfl (w10.heap.size) rfl _ (u8A S1) _ _ (HT_.blk (by repeat (with_reducible (first | exact At.here | apply At.there)))) Try.underlying28 rfl (by rw [u8A_size, HSL.out]; exact info_sector) ?_; clear HT_)
          | ((with_reducible refine gate_load (t := 28) (x := .tmp 1) rfl ?_); (apply Cx.atList); (focus ((repeat (with_reducible (first | exact (H11).toS | exact At.here | apply At.there | apply CxS.drewN | apply CxS.drew | apply CxS.alloc | apply CxS.set | apply CxS.setRow))))); intro HT_; refine wpList_load_row_g rfl 28 (.tmp 1) rfl (w.heap.size) rfl _ (u8A S1) _ _ (HT_.blk (by repeat (with_reducible (first | exact At.here | apply At.there)))) Try.underlying28 rfl (by rw [u8A_size, HSL.out]; exact info_sector) ?_; clear HT_))
        ((try simp only [Exit.inBlock, Exit.then]); (apply Cx.atPost); (focus ((repeat (with_reducible (first | exact (H11).toS | exact At.here | apply At.there | apply CxS.drewN | apply CxS.drew | apply CxS.alloc | apply CxS.set | apply CxS.setRow))))); intro HT)
        try simp only [List.setIfInBounds_toArray, List.set_cons_zero, List.set_cons_succ] at HT
        exact bodyPost_ret (results_ct rfl _ _ (w.heap.size + 1) _ #[.int .i64 k, .int .i64 g, .int .i64 n, .slice A8 z c8] (0, 0) _ rfl (HT.blk (by repeat (with_reducible (first | exact At.here | apply At.there)))) Try.underlying33 rfl (by kernel_rfl)) rfl (Or.inr ⟨k, g, n, d, .slice A8 z c8, HOO.out, rfl, by have := HT.head (a := .own bytesR (.slice A8 d.length c8) d) (by repeat (with_reducible (first | exact At.here | apply At.there))); rw [hDL] at this; exact this⟩)
      · have heq := fun W => eql_sector S1 s HSL.out HS.out W
        rw [decide_eq_false hSs] at heq
        rw [if_neg (by simp [hSs])] at HOO
        rw [errW_none]
        have F := (H10).facts; simp only [factsOf, Asr.facts, blkFacts, cellsAre, List.toList_toArray, forall_const, Nat.zero_add, Nat.reduceAdd, and_true, true_and] at F
        go_wp2_with (first
          | (((with_reducible refine gate_store (t := 28) (x := .tmp 8) (y := .tmp 42) rfl ?_); (apply Cx.atList); (focus ((repeat (with_reducible (first | exact (H10).toS | exact At.here | apply At.there | apply CxS.drewN | apply CxS.drew | apply CxS.alloc | apply CxS.set | apply CxS.setRow))))); intro HT_; refine wpList_store_row rfl 28 (.tmp 8) (.tmp 42) rfl (w10.heap.size) (u8A S1) rfl rfl _ _ (HT_.blk (by repeat (with_reducible (first | exact At.here | apply At.there)))) (by rw [u8A_size, HSL.out]; exact info_sector) (by rw [z128_sz, u8A_size, HSL.out]) (u8A_one _) ?_; clear HT_); clear F; (apply Cx.genList); (focus ((repeat (with_reducible (first | exact (H10).toS | exact At.here | apply At.there | apply CxS.drewN | apply CxS.drew | apply CxS.alloc | apply CxS.set | apply CxS.setRow))))); clear H10; intro w11 H11; have F := (H11).facts; simp only [factsOf, Asr.facts, blkFacts, cellsAre, List.toList_toArray, forall_const, Nat.zero_add, Nat.reduceAdd, and_true, true_and] at F)
          | ((with_reducible refine gate_load (t := 28) (x := .tmp 8) rfl ?_); (apply Cx.atList); (focus ((repeat (with_reducible (first | exact (H11).toS | exact At.here | apply At.there | apply CxS.drewN | apply CxS.drew | apply CxS.alloc | apply CxS.set | apply CxS.setRow))))); intro HT_; refine wpList_load_row_g rfl 28 (.tmp 8) rfl (w10.heap.size) rfl _ (u8A S1) _ _ (HT_.blk (by repeat (with_reducible (first | exact At.here | apply At.there)))) Try.underlying28 rfl (by rw [u8A_size, HSL.out]; exact info_sector) ?_; clear HT_)
          | ((with_reducible refine gate_load (t := 28) (x := .tmp 1) rfl ?_); (apply Cx.atList); (focus ((repeat (with_reducible (first | exact (H11).toS | exact At.here | apply At.there | apply CxS.drewN | apply CxS.drew | apply CxS.alloc | apply CxS.set | apply CxS.setRow))))); intro HT_; refine wpList_load_row_g rfl 28 (.tmp 1) rfl (w.heap.size) rfl _ (u8A s) _ _ (HT_.blk (by repeat (with_reducible (first | exact At.here | apply At.there)))) Try.underlying28 rfl (by rw [u8A_size, HS.out]; exact info_sector) ?_; clear HT_))
        ((try simp only [Exit.inBlock, Exit.then]); (apply Cx.atPost); (focus ((repeat (with_reducible (first | exact (H11).toS | exact At.here | apply At.there | apply CxS.drewN | apply CxS.drew | apply CxS.alloc | apply CxS.set | apply CxS.setRow))))); intro HT)
        try simp only [List.setIfInBounds_toArray, List.set_cons_zero, List.set_cons_succ] at HT
        exact bodyPost_ret (results_ct rfl _ _ (w.heap.size + 1) _ #[.int .i64 0, .int .i64 0, .int .i64 0, .slice none 0 0] (0, 0) _ rfl (HT.blk (by repeat (with_reducible (first | exact At.here | apply At.there)))) Try.underlying33 rfl (by kernel_rfl)) rfl (Or.inl ⟨HOO.out, rfl, HT.nil⟩)
    · rw [if_neg (by simp)] at HOO
      rw [errW_some]
      have F := (H10).facts; simp only [factsOf, Asr.facts, blkFacts, cellsAre, List.toList_toArray, forall_const, Nat.zero_add, Nat.reduceAdd, and_true, true_and] at F
      go_wp2_with (first
          | (((with_reducible refine gate_store (t := 28) (x := .tmp 8) (y := .tmp 42) rfl ?_); (apply Cx.atList); (focus ((repeat (with_reducible (first | exact (H10).toS | exact At.here | apply At.there | apply CxS.drewN | apply CxS.drew | apply CxS.alloc | apply CxS.set | apply CxS.setRow))))); intro HT_; refine wpList_store_row rfl 28 (.tmp 8) (.tmp 42) rfl (w10.heap.size) (u8A S1) rfl rfl _ _ (HT_.blk (by repeat (with_reducible (first | exact At.here | apply At.there)))) (by rw [u8A_size, HSL.out]; exact info_sector) (by rw [z128_sz, u8A_size, HSL.out]) (u8A_one _) ?_; clear HT_); clear F; (apply Cx.genList); (focus ((repeat (with_reducible (first | exact (H10).toS | exact At.here | apply At.there | apply CxS.drewN | apply CxS.drew | apply CxS.alloc | apply CxS.set | apply CxS.setRow))))); clear H10; intro w11 H11; have F := (H11).facts; simp only [factsOf, Asr.facts, blkFacts, cellsAre, List.toList_toArray, forall_const, Nat.zero_add, Nat.reduceAdd, and_true, true_and] at F))
      ((try simp only [Exit.inBlock, Exit.then]); (apply Cx.atPost); (focus ((repeat (with_reducible (first | exact (H11).toS | exact At.here | apply At.there | apply CxS.drewN | apply CxS.drew | apply CxS.alloc | apply CxS.set | apply CxS.setRow))))); intro HT)
      try simp only [List.setIfInBounds_toArray, List.set_cons_zero, List.set_cons_succ] at HT
      exact bodyPost_ret (results_ct rfl _ _ (w.heap.size + 1) _ #[.int .i64 0, .int .i64 0, .int .i64 0, .slice none 0 0] (0, 0) _ rfl (HT.blk (by repeat (with_reducible (first | exact At.here | apply At.there)))) Try.underlying33 rfl (by kernel_rfl)) rfl (Or.inl ⟨HOO.out, rfl, HT.nil⟩)

/-! ### box_Is: function 15 -/
def isO (s : List Int) (kind gen num : Int) : Option (List Int) := match openO s with
  | some (k, g, n, d) => if k = kind ∧ g = gen ∧ n = num then some d else none
  | none => none
def IsTo (s : List Int) (kind gen num : Int) (w : World) (e : Ending) (w' : World) : Prop :=
  (isO s kind gen num = none ∧ e = .returned (.tuple #[.slice none 0 0, .bool false]) ∧ Cx w.heap.size w w' []) ∨
  (∃ d v, isO s kind gen num = some d ∧ e = .returned (.tuple #[v, .bool true]) ∧ Cx w.heap.size w w' [.own bytesR v d])
set_option maxRecDepth 100000 in
set_option maxHeartbeats 4000000 in
theorem box_Is.calls (s : List Int) (kind gen num : Int) (w : World) (hs : s.length = 128) (hb : ∀ x ∈ s, 0 ≤ x ∧ x < 256) : Calls Try.prog 15 #[.agg (u8A s), .int .i64 kind, .int .i64 gen, .int .i64 num] w (IsTo s kind gen num w) := by
  have H0 := Cx.start w
  have HS := Aside0.mk hs
  have HB := Aside0.mk hb
  have hu := u8A_size s
  rw [hs] at hu
  have HU := Aside0.mk hu
  clear hs hb hu
  go_enter Try.func15, Try.ntmps15
  go_wp2_with (first
    | ((with_reducible refine gate_load (t := 28) (x := .tmp 4) rfl ?_); (apply Cx.atList); (focus ((repeat (with_reducible (first | exact (H0).toS | exact At.here | apply At.there | apply CxS.drewN | apply CxS.drew | apply CxS.alloc | apply CxS.set | apply CxS.setRow))))); intro HT_; refine wpList_load_row rfl 28 (.tmp 4) rfl (w.heap.size) rfl _ (u8A s) _ _ (HT_.blk (by repeat (with_reducible (first | exact At.here | apply At.there)))) Try.underlying28 rfl (by rw [HU.out]; exact info_sector) ?_; clear HT_))
  ((first | apply Cx.genCall | apply Cx.genCode | apply Cx.genList); (focus ((repeat (with_reducible (first | exact (H0).toS | exact At.here | apply At.there | apply CxS.drewN | apply CxS.drew | apply CxS.alloc | apply CxS.set | apply CxS.setRow))))); clear H0; intro w1 H1)
  refine (box_Open.calls s _ HS.out HB.out).mono ?_
  rintro e w2 h
  rcases h with ⟨hO, rfl, hj⟩ | ⟨k, g, n, d, v, hO, rfl, hj⟩
  · have H2 := (H1).join hj; simp only [List.cons_append, List.nil_append] at H2
    have HO := Aside0.mk (show isO s kind gen num = none by unfold isO; rw [hO])
    clear hO hj H1
    rw [errW_some]
    go_wp2
    ((try simp only [Exit.inBlock, Exit.then]); (apply Cx.atPost); (focus ((repeat (with_reducible (first | exact (H2).toS | exact At.here | apply At.there | apply CxS.drewN | apply CxS.drew | apply CxS.alloc | apply CxS.set | apply CxS.setRow))))); intro HT)
    go_ret2
    exact Or.inl ⟨HO.out, rfl, HT.nil⟩
  · have H2 := (H1).join hj; simp only [List.cons_append, List.nil_append] at H2
    have HO := Aside0.mk (show isO s kind gen num = if k = kind ∧ g = gen ∧ n = num then some d else none by unfold isO; rw [hO])
    clear hO hj H1
    obtain ⟨A, c, rfl, hc⟩ := H2.slice (by repeat (with_reducible (first | exact At.here | apply At.there)))
    rw [errW_none]
    by_cases hk : k = kind
    · subst hk
      by_cases hg : g = gen
      · subst hg
        by_cases hn : n = num
        · subst hn
          rw [if_pos ⟨rfl, rfl, rfl⟩] at HO
          go_wp2
          ((try simp only [Exit.inBlock, Exit.then]); (apply Cx.atPost); (focus ((repeat (with_reducible (first | exact (H2).toS | exact At.here | apply At.there | apply CxS.drewN | apply CxS.drew | apply CxS.alloc | apply CxS.set | apply CxS.setRow))))); intro HT)
          go_ret2
          exact Or.inr ⟨d, _, HO.out, rfl, HT.head (a := .own bytesR (.slice A d.length c) d) (by repeat (with_reducible (first | exact At.here | apply At.there)))⟩
        · have h1 : (n == num) = false := beq_eq_false_iff_ne.2 hn
          have h2 : (n != num) = true := bne_iff_ne.2 hn
          rw [if_neg (fun h => hn h.2.2)] at HO
          go_wp2
          ((try simp only [Exit.inBlock, Exit.then]); (apply Cx.atPost); (focus ((repeat (with_reducible (first | exact (H2).toS | exact At.here | apply At.there | apply CxS.drewN | apply CxS.drew | apply CxS.alloc | apply CxS.set | apply CxS.setRow))))); intro HT)
          go_ret2
          exact Or.inl ⟨HO.out, rfl, HT.nil⟩
      · have h1 : (g == gen) = false := beq_eq_false_iff_ne.2 hg
        have h2 : (g != gen) = true := bne_iff_ne.2 hg
        rw [if_neg (fun h => hg h.2.1)] at HO
        go_wp2
        ((try simp only [Exit.inBlock, Exit.then]); (apply Cx.atPost); (focus ((repeat (with_reducible (first | exact (H2).toS | exact At.here | apply At.there | apply CxS.drewN | apply CxS.drew | apply CxS.alloc | apply CxS.set | apply CxS.setRow))))); intro HT)
        go_ret2
        exact Or.inl ⟨HO.out, rfl, HT.nil⟩
    · have h1 : (k == kind) = false := beq_eq_false_iff_ne.2 hk
      have h2 : (k != kind) = true := bne_iff_ne.2 hk
      rw [if_neg (fun h => hk h.1)] at HO
      go_wp2
      ((try simp only [Exit.inBlock, Exit.then]); (apply Cx.atPost); (focus ((repeat (with_reducible (first | exact (H2).toS | exact At.here | apply At.there | apply CxS.drewN | apply CxS.drew | apply CxS.alloc | apply CxS.set | apply CxS.setRow))))); intro HT)
      go_ret2
      exact Or.inl ⟨HO.out, rfl, HT.nil⟩

/-! ### laminanum_Num: function 12 -/
def laminanum_Num.f (a0 : Option Int) : Option (Int) := if a0.isNone = true then (some 0) else (if (a0.getD 0) = 0 then (some (-1)) else (some (a0.getD 0)))
set_option maxHeartbeats 8000000 in
set_option maxRecDepth 100000 in
theorem laminanum_Num.calls (a0 : Option Int) (r : Int) (w : World) (h : laminanum_Num.f a0 = some r) :
    Calls Try.prog 12 #[errW a0] w fun e w' => e = .returned (.int .i64 r) ∧ Drawn0 w w' := by
  have hu30 := Try.underlying30
  have hu51 := Try.underlying51
  have hta : ∀ (v : Value) (W : World), (Instr.typeAssert (.iface 51 v) 30 51 true).run Try.prog W = .ok (.tuple #[v, .bool true]) W := fun v W => by rfl
  have H : (if a0.isNone = true then (some 0) else (if (a0.getD 0) = 0 then (some (-1)) else (some (a0.getD 0)))) = some r := h
  clear h
  rcases a0 with _ | q101
  · have H1 : (some 0) = some r := by rw [if_pos (show (none : Option Int).isNone = true by rfl)] at H; exact H
    clear H
    have H := H1
    clear H1
    simp only [errW_none, errW_some]
    obtain rfl := Option.some.inj H
    go_enter Try.func12, Try.ntmps12
    go_wp2
    go_ret
    exact ⟨by first | rfl | (simp; done) | (simp [*]; done), by repeat (first | exact Drawn0.refl _ | apply Drawn0.step)⟩
  · have H1 : (if q101 = 0 then (some (-1)) else (some q101)) = some r := by rw [if_neg (show ¬ (some q101).isNone = true by simp)] at H; exact H
    clear H
    have H := H1
    clear H1
    simp only [errW_none, errW_some]
    by_cases c2 : q101 = 0
    · rw [if_pos c2] at H
      have c2b0 : (q101 == 0) = true := beq_iff_eq.mpr c2
      have c2b1 : (q101 != 0) = false := bne_eq_false_iff_eq.mpr c2
      clear c2
      obtain rfl := Option.some.inj H
      go_enter Try.func12, Try.ntmps12
      go_wp2
      go_ret
      exact ⟨by first | rfl | (simp; done) | (simp [*]; done), by repeat (first | exact Drawn0.refl _ | apply Drawn0.step)⟩
    · rw [if_neg c2] at H
      have c2b0 : (q101 == 0) = false := beq_eq_false_iff_ne.mpr c2
      have c2b1 : (q101 != 0) = true := bne_iff_ne.mpr c2
      obtain rfl := Option.some.inj H
      go_enter Try.func12, Try.ntmps12
      go_wp2
      go_ret
      exact ⟨by first | rfl | (simp; done) | (simp [*]; done), by repeat (first | exact Drawn0.refl _ | apply Drawn0.step)⟩

/-! ### laminanum_Is: function 19 -/
def laminanum_Is.f (a0 : Option Int) (a1 : Int) : Option (Bool) := (laminanum_Num.f a0).bind fun t102 => (some (t102 == a1))
set_option maxHeartbeats 8000000 in
set_option maxRecDepth 100000 in
theorem laminanum_Is.calls (a0 : Option Int) (a1 : Int) (r : Bool) (w : World) (h : laminanum_Is.f a0 a1 = some r) :
    Calls Try.prog 19 #[errW a0, .int .i64 a1] w fun e w' => e = .returned (.bool r) ∧ Drawn0 w w' := by
  have H : ((laminanum_Num.f a0).bind fun t102 => (some (t102 == a1))) = some r := h
  clear h
  replace H := Option.bind_eq_some_iff.mp H
  obtain ⟨t102, A30, H⟩ := H
  replace H : (some (t102 == a1)) = some r := H
  have A3 := Aside0.mk A30
  clear A30
  obtain rfl := Option.some.inj H
  have CA3 := fun W => laminanum_Num.calls a0 t102 W A3.out
  try simp only [errW_none, errW_some] at CA3
  go_enter Try.func19, Try.ntmps19
  go_wp2_with (first | (go_at_call 12; (with_reducible refine (CA3 _).mono ?_); rintro e w' ⟨rfl, ⟨nd, rfl⟩⟩))
  go_ret
  exact ⟨by first | rfl | (simp; done) | (simp [*]; done), by repeat (first | exact Drawn0.refl _ | apply Drawn0.step)⟩

/-! ### laminaref03_Num: function 29 -/
def laminaref03_Num.l0 : Nat → Int → List Int → Int → Option (List Int)
  | 0, _, _, _ => none
  | k + 1, x3, x4, x5 => if x5 < 8 then (if x4.length < 140737488355328 then (laminaref03_Num.l0 k (IntKind.u64.wrap (Int.tdiv x3 256)) (x4 ++ [(Int.tmod x3 256) % 256]) (wrap64 (x5 + 1))) else (none)) else (some x4)
def laminaref03_Num.f (k : Nat) (a0 : Int) : Option (List Int) := laminaref03_Num.l0 k (IntKind.u64.wrap (a0)) ([] : List Int) 0
theorem laminaref03_Num.mono_l : ∀ k, (∀ y0 y1 y2, LeO (laminaref03_Num.l0 k y0 y1 y2) (laminaref03_Num.l0 (k + 1) y0 y1 y2))
  | 0 => fun _ _ _ r h => by simp [laminaref03_Num.l0] at h
  | k + 1 => by
    have ih0 := laminaref03_Num.mono_l k
    · intro y0 y1 y2
      unfold laminaref03_Num.l0
      repeat' first
      | (with_reducible exact ih0 _ _ _)
      | (with_reducible exact LeO.refl _)
      | (with_reducible exact LeO.none _)
      | (with_reducible refine LeO.ite ?_ ?_)
      | (with_reducible refine LeO.bind ?_ (fun _ => ?_))
      | exact ih0 _ _ _
      | exact LeO.none _
      | refine LeO.ite ?_ ?_
      | refine LeO.bind ?_ (fun _ => ?_)
theorem laminaref03_Num.mono : ∀ a0 k, LeO (laminaref03_Num.f k a0) (laminaref03_Num.f (k + 1) a0) := by
  intro a0 k
  have ih0 := laminaref03_Num.mono_l k
  unfold laminaref03_Num.f
  repeat' first
      | (with_reducible exact ih0 _ _ _)
      | (with_reducible exact LeO.refl _)
      | (with_reducible exact LeO.none _)
      | (with_reducible refine LeO.ite ?_ ?_)
      | (with_reducible refine LeO.bind ?_ (fun _ => ?_))
      | exact ih0 _ _ _
      | exact LeO.none _
      | refine LeO.ite ?_ ?_
      | refine LeO.bind ?_ (fun _ => ?_)
set_option maxHeartbeats 8000000 in
set_option maxRecDepth 100000 in
theorem laminaref03_Num.calls (k : Nat) (a0 : Int) (r : List Int) (w : World) (h : laminaref03_Num.f k a0 = some r) :
    Calls Try.prog 29 #[.int .i64 a0] w fun e w' => ∃ v0_ : Value, e = .returned (v0_) ∧ Kd.R (Kd.int .u8) 5 w' w.heap.size (fun _ => True) v0_ r ∧ Below w.heap.size w w' := by
  have HB := Aside0.mk (Below.refl w.heap.size w)
  have H : (laminaref03_Num.l0 k (IntKind.u64.wrap (a0)) ([] : List Int) 0) = some r := h
  clear h
  have H' := Aside0.mk H
  clear H
  go_enter Try.func29, Try.ntmps29
  go_wp2
  go_loopg [3, 4, 5] k (fun kq v3 v4 v5 w' => ∃ (x3_1 : Int) (x4_1 : List Int) (x5_1 : Int), v3 = .int .u64 x3_1 ∧ v5 = .int .i64 x5_1 ∧ Aside0 (laminaref03_Num.l0 kq x3_1 x4_1 x5_1 = some r) ∧ Aside0 (kq ≤ k) ∧ Aside0 (Kd.R (Kd.int .u8) 5 w' w.heap.size (fun _ => True) v4 x4_1) ∧ Aside0 (Below w.heap.size w w'))
  case atStart => exact ⟨(IntKind.u64.wrap (a0)), (([] : List Int)), (0), (by first | rfl | (simp; done) | (simp [*]; done)), (by first | rfl | (simp; done) | (simp [*]; done)), H', ⟨Nat.le_refl _⟩, ⟨by first | exact Kd.R_nil _ _ _ _ _ | exact Kd.N_nil _ _ _ _ _ | exact Kd.V_nil _ _ _ _ _ | exact Kd.Q_nil _ _ _ _ _ | exact Kd.S_nil _ _ _ _ _⟩, ⟨by repeat (first | (with_reducible first | exact HB.out | apply below_alloc | apply pw_below_drewN | apply below_drew1) | exact HB.out)⟩⟩
  case round =>
    clear H'
    obtain ⟨x3_1, x4_1, x5_1, rfl, rfl, HA, HK1, HO_4, HB⟩ := hrel
    cases gk with
    | zero => exact absurd HA.out (by simp [laminaref03_Num.l0])
    | succ k1 =>
      have H := HA.out
      clear HA
      simp only [laminaref03_Num.l0] at H
      by_cases c2 : x5_1 < 8
      · rw [if_pos c2] at H
        have c2b0 : decide (x5_1 < 8) = true := decide_eq_true c2
        clear c2
        by_cases c3 : x4_1.length < 140737488355328
        · rw [if_pos c3] at H
          have LMc3 := Aside0.mk c3
          clear c3
          obtain ⟨y103, hy103⟩ : ∃ y_ : List Int, y_ = (x4_1 ++ [(Int.tmod x3_1 256) % 256]) := ⟨_, rfl⟩
          replace H : (laminaref03_Num.l0 k1 (IntKind.u64.wrap (Int.tdiv x3_1 256)) y103 (wrap64 (x5_1 + 1))) = some r := by first | (rw [hy103]; with_reducible exact H) | (have H2_ := (Option.bind_some _ _).symm.trans H; rw [hy103]; with_reducible exact H2_) | (have H2_ := (Option.bind_some _ _).symm.trans H; with_reducible exact H2_) | with_reducible exact H | (rw [hy103]; exact H) | exact H
          have Ny103 := Aside0.mk hy103
          clear hy103
          have H' := Aside0.mk H
          clear H
          go_wp2_with (first | ((with_reducible refine gate_builtin (b := .append) (xs := #[.tmp 12, .tmp 16]) rfl ?_); at_builtin; refine Kd.R_append (Kd.int .u8) (w0 := w) w.heap.size rfl (.tmp 12) (.tmp 16) 22 5 (.int .u8 0) 1 rfl Try.underlying22 info5 rfl (by decide) (by omega) u4 x4_1 ((Int.tmod x3_1 256) % 256) [.int .u8 ((Int.tmod x3_1 256) % 256)] (fun _ => True) (fun _ => False) rfl rfl ?aP (fun _ hk => hk.elim) ?aF ?aO ?aB ?aS ?aL ?_; (case aP => exact rfl); (case aB => exact (by repeat (first | (with_reducible first | exact HB.out | apply below_alloc | apply pw_below_drewN | apply below_drew1) | exact HB.out))); (case aF => exact (fun _ _ => trivial)); (case aO => exact (by (with_reducible repeat (first | apply Kd.R_alloc | apply Kd.R_drewN | apply Kd.R_drew)); exact HO_4.out)); (case aS => exact (below_size (by repeat (first | (with_reducible first | exact HB.out | apply below_alloc | apply pw_below_drewN | apply below_drew1) | exact HB.out)))); (case aL => have := LMc3.out; omega); intro v104 w4 ho hb hg hat; rw [← Ny103.out] at ho; have n0_ := Aside0.mk (hb); have n1_ := Aside0.mk (ho); clear HB; clear HO_4; have HB := n0_; have HO105 := n1_; clear n0_ n1_; clear ho hb hg hat))
          go_roundg k1
          case measure => have := HK1.out; omega
          case rel => exact ⟨(IntKind.u64.wrap (Int.tdiv x3_1 256)), (y103), (wrap64 (x5_1 + 1)), (by first | rfl | (simp; done) | (simp [*]; done)), (by first | rfl | (simp; done) | (simp [*]; done)), H', ⟨by have := HK1.out; omega⟩, ⟨by (with_reducible repeat (first | apply Kd.R_alloc | apply Kd.R_drewN | apply Kd.R_drew)); exact HO105.out⟩, ⟨by repeat (first | (with_reducible first | exact HB.out | apply below_alloc | apply pw_below_drewN | apply below_drew1) | exact HB.out)⟩⟩
        · rw [if_neg c3] at H
          exact absurd H (by simp)
      · rw [if_neg c2] at H
        have c2b0 : decide (x5_1 < 8) = false := decide_eq_false c2
        clear c2
        obtain rfl := Option.some.inj H
        go_wp2
        go_ret
        exact ⟨_, by first | rfl | (simp [errW_none, errW_some] <;> rfl) | (simp [*, errW_none, errW_some] <;> rfl), by (with_reducible repeat (first | apply Kd.R_alloc | apply Kd.R_drewN | apply Kd.R_drew)); exact HO_4.out, by repeat (first | (with_reducible first | exact HB.out | apply below_alloc | apply pw_below_drewN | apply below_drew1) | exact HB.out)⟩

-- AUX rnumw
theorem byte_eq (n : Int) : ∀ i < 8, ((n % 18446744073709551616) / 256 ^ i) % 256 = n / 2 ^ (8 * i) % 256 := by
  intro i hi
  obtain rfl | rfl | rfl | rfl | rfl | rfl | rfl | rfl : i = 0 ∨ i = 1 ∨ i = 2 ∨ i = 3 ∨ i = 4 ∨ i = 5 ∨ i = 6 ∨ i = 7 := by omega
  all_goals (simp only [Nat.mul_zero, Int.pow_zero, show (256 : Int) ^ 1 = 256 by decide, show (256 : Int) ^ 2 = 65536 by decide, show (256 : Int) ^ 3 = 16777216 by decide, show (256 : Int) ^ 4 = 4294967296 by decide, show (256 : Int) ^ 5 = 1099511627776 by decide, show (256 : Int) ^ 6 = 281474976710656 by decide, show (256 : Int) ^ 7 = 72057594037927936 by decide, show (2 : Int) ^ (8 * 1) = 256 by decide, show (2 : Int) ^ (8 * 2) = 65536 by decide, show (2 : Int) ^ (8 * 3) = 16777216 by decide, show (2 : Int) ^ (8 * 4) = 4294967296 by decide, show (2 : Int) ^ (8 * 5) = 1099511627776 by decide, show (2 : Int) ^ (8 * 6) = 281474976710656 by decide, show (2 : Int) ^ (8 * 7) = 72057594037927936 by decide]; omega)
theorem rnum_go (n : Int) : ∀ (r i k : Nat), i + r = 8 → r < k → laminaref03_Num.l0 k ((n % 18446744073709551616) / 256 ^ i) ((List.range i).map fun j => n / 2 ^ (8 * j) % 256) i = some (numL n) := by
  intro r
  induction r with
  | zero =>
    intro i k hi hk
    obtain ⟨k, rfl⟩ : ∃ k', k = k' + 1 := ⟨k - 1, by omega⟩
    rw [laminaref03_Num.l0, if_neg (by omega)]
    obtain rfl : i = 8 := by omega
    rfl
  | succ r ih =>
    intro i k hi hk
    obtain ⟨k, rfl⟩ : ∃ k', k = k' + 1 := ⟨k - 1, by omega⟩
    have h := ih (i + 1) k (by omega) (by omega)
    have e : wrap64 ((i : Int) + 1) = ((i + 1 : Nat) : Int) := by unfold wrap64; omega
    have hP : (0 : Int) < 256 ^ i := Int.pow_pos (by decide)
    have h0 : 0 ≤ (n % 18446744073709551616) / 256 ^ i := Int.ediv_nonneg (by omega) (by omega)
    have h1 : (n % 18446744073709551616) / 256 ^ i ≤ n % 18446744073709551616 := Int.ediv_le_self _ (by omega)
    have hb := byte_eq n i (by omega)
    have hdd : (n % 18446744073709551616) / 256 ^ (i + 1) = (n % 18446744073709551616) / 256 ^ i / 256 := by
      rw [Int.pow_succ, ← Int.ediv_ediv_of_nonneg (by omega)]
    rw [hdd] at h
    generalize (n % 18446744073709551616) / 256 ^ i = u at *
    rw [laminaref03_Num.l0, if_pos (by omega), if_pos (by simp; omega), e]
    rw [Int.tdiv_eq_ediv_of_nonneg h0, Int.tmod_eq_emod_of_nonneg h0, IntWalk.u64_in _ (by omega), show u % 256 % 256 = n / 2 ^ (8 * i) % 256 by omega]
    rw [List.range_succ, List.map_append] at h
    exact h
theorem rnum_f (n : Int) (k : Nat) (hk : 8 < k) : laminaref03_Num.f k n = some (numL n) := by
  unfold laminaref03_Num.f
  have h := rnum_go n 8 0 k (by omega) hk
  have hw : IntKind.u64.wrap n = n % 18446744073709551616 := by
    simp only [IntKind.wrap, IntKind.bits, IntKind.signed, Bool.false_and, Bool.false_eq_true, if_false]
    rfl
  rw [hw]
  simpa using h

/-! ### laminaref01_over: function 42 -/
def laminaref01_over.l0 : Nat → Int → Int → Int → Option (Int)
  | 0, _, _, _ => none
  | k + 1, x0, x1, x5 => if x5 < x1 then (if (Int.tmod x0 2) = 1 then (laminaref01_over.l0 k (Go.bits .xor .u32 ((Int.tdiv x0 2) % 4294967296) 2197175160) x1 (wrap64 (x5 + 1))) else (laminaref01_over.l0 k ((Int.tdiv x0 2) % 4294967296) x1 (wrap64 (x5 + 1)))) else (some x0)
def laminaref01_over.f (k : Nat) (a0 : Int) (a1 : Int) : Option (Int) := laminaref01_over.l0 k a0 a1 0
theorem laminaref01_over.mono_l : ∀ k, (∀ y0 y1 y2, LeO (laminaref01_over.l0 k y0 y1 y2) (laminaref01_over.l0 (k + 1) y0 y1 y2))
  | 0 => fun _ _ _ r h => by simp [laminaref01_over.l0] at h
  | k + 1 => by
    have ih0 := laminaref01_over.mono_l k
    · intro y0 y1 y2
      unfold laminaref01_over.l0
      repeat' first
      | (with_reducible exact ih0 _ _ _)
      | (with_reducible exact LeO.refl _)
      | (with_reducible exact LeO.none _)
      | (with_reducible refine LeO.ite ?_ ?_)
      | (with_reducible refine LeO.bind ?_ (fun _ => ?_))
      | exact ih0 _ _ _
      | exact LeO.none _
      | refine LeO.ite ?_ ?_
      | refine LeO.bind ?_ (fun _ => ?_)
theorem laminaref01_over.mono : ∀ a0 a1 k, LeO (laminaref01_over.f k a0 a1) (laminaref01_over.f (k + 1) a0 a1) := by
  intro a0 a1 k
  have ih0 := laminaref01_over.mono_l k
  unfold laminaref01_over.f
  repeat' first
      | (with_reducible exact ih0 _ _ _)
      | (with_reducible exact LeO.refl _)
      | (with_reducible exact LeO.none _)
      | (with_reducible refine LeO.ite ?_ ?_)
      | (with_reducible refine LeO.bind ?_ (fun _ => ?_))
      | exact ih0 _ _ _
      | exact LeO.none _
      | refine LeO.ite ?_ ?_
      | refine LeO.bind ?_ (fun _ => ?_)
set_option maxHeartbeats 8000000 in
set_option maxRecDepth 100000 in
theorem laminaref01_over.calls (k : Nat) (a0 : Int) (a1 : Int) (r : Int) (w : World) (h : laminaref01_over.f k a0 a1 = some r) :
    Calls Try.prog 42 #[.int .u32 a0, .int .i64 a1] w fun e w' => e = .returned (.int .u32 r) ∧ Drawn0 w w' := by
  have H : (laminaref01_over.l0 k a0 a1 0) = some r := h
  clear h
  have H' := Aside0.mk H
  clear H
  go_enter Try.func42, Try.ntmps42
  go_wp2
  go_loopg [0, 5] k (fun kq v0 v5 w' => ∃ (x0_1 : Int) (x5_1 : Int), v0 = .int .u32 x0_1 ∧ v5 = .int .i64 x5_1 ∧ Aside0 (laminaref01_over.l0 kq x0_1 a1 x5_1 = some r) ∧ Aside0 (kq ≤ k) ∧ Drawn0 w w')
  case atStart => exact ⟨(a0), (0), (by first | rfl | (simp; done) | (simp [*]; done)), (by first | rfl | (simp; done) | (simp [*]; done)), H', ⟨Nat.le_refl _⟩, by repeat (first | exact Drawn0.refl _ | apply Drawn0.step)⟩
  case round =>
    clear H'
    try clear p2
    obtain ⟨x0_1, x5_1, rfl, rfl, HA, HK1, ⟨m1, rfl⟩⟩ := hrel
    cases gk with
    | zero => exact absurd HA.out (by simp [laminaref01_over.l0])
    | succ k1 =>
      have H := HA.out
      clear HA
      simp only [laminaref01_over.l0] at H
      by_cases c3 : x5_1 < a1
      · rw [if_pos c3] at H
        have c3b0 : decide (x5_1 < a1) = true := decide_eq_true c3
        clear c3
        by_cases c4 : (Int.tmod x0_1 2) = 1
        · rw [if_pos c4] at H
          have c4b0 : ((Int.tmod x0_1 2) == 1) = true := beq_iff_eq.mpr c4
          have c4b1 : ((Int.tmod x0_1 2) != 1) = false := bne_eq_false_iff_eq.mpr c4
          clear c4
          have H' := Aside0.mk H
          clear H
          go_wp2
          go_roundg k1
          case measure => have := HK1.out; omega
          case rel => exact ⟨(Go.bits .xor .u32 ((Int.tdiv x0_1 2) % 4294967296) 2197175160), (wrap64 (x5_1 + 1)), (by first | rfl | (simp; done) | (simp [*]; done)), (by first | rfl | (simp; done) | (simp [*]; done)), H', ⟨by have := HK1.out; omega⟩, by repeat (first | exact Drawn0.refl _ | apply Drawn0.step)⟩
        · rw [if_neg c4] at H
          have c4b0 : ((Int.tmod x0_1 2) == 1) = false := beq_eq_false_iff_ne.mpr c4
          have c4b1 : ((Int.tmod x0_1 2) != 1) = true := bne_iff_ne.mpr c4
          have H' := Aside0.mk H
          clear H
          go_wp2
          go_roundg k1
          case measure => have := HK1.out; omega
          case rel => exact ⟨((Int.tdiv x0_1 2) % 4294967296), (wrap64 (x5_1 + 1)), (by first | rfl | (simp; done) | (simp [*]; done)), (by first | rfl | (simp; done) | (simp [*]; done)), H', ⟨by have := HK1.out; omega⟩, by repeat (first | exact Drawn0.refl _ | apply Drawn0.step)⟩
      · rw [if_neg c3] at H
        have c3b0 : decide (x5_1 < a1) = false := decide_eq_false c3
        clear c3
        obtain rfl := Option.some.inj H
        go_wp2
        go_ret
        exact ⟨by first | rfl | (simp; done) | (simp [*]; done), by repeat (first | exact Drawn0.refl _ | apply Drawn0.step)⟩

/-! ### laminaref01_Sum: function 30 -/
def laminaref01_Sum.l0 : Nat → List Int → Int → Int → Option (Int)
  | 0, _, _, _ => none
  | k + 1, x0, x3, x4 => if x4 < (x0.length : Int) then (if 0 ≤ x4 then ((laminaref01_over.f k (Go.bits .xor .u32 x3 ((rd x0 x4) % 4294967296)) 8).bind fun t107 => (laminaref01_Sum.l0 k x0 t107 (wrap64 (x4 + 1)))) else (none)) else (some ((4294967295 - x3) % 4294967296))
def laminaref01_Sum.f (k : Nat) (l0 : List Int) : Option (Int) := laminaref01_Sum.l0 k l0 4294967295 0
theorem laminaref01_Sum.mono_l : ∀ k, (∀ y0 y1 y2, LeO (laminaref01_Sum.l0 k y0 y1 y2) (laminaref01_Sum.l0 (k + 1) y0 y1 y2))
  | 0 => fun _ _ _ r h => by simp [laminaref01_Sum.l0] at h
  | k + 1 => by
    have ih0 := laminaref01_Sum.mono_l k
    · intro y0 y1 y2
      unfold laminaref01_Sum.l0
      repeat' first
      | (with_reducible exact ih0 _ _ _)
      | (with_reducible exact laminaref01_over.mono _ _ _)
      | (with_reducible exact LeO.refl _)
      | (with_reducible exact LeO.none _)
      | (with_reducible refine LeO.ite ?_ ?_)
      | (with_reducible refine LeO.bind ?_ (fun _ => ?_))
      | exact ih0 _ _ _
      | exact laminaref01_over.mono _ _ _
      | exact LeO.none _
      | refine LeO.ite ?_ ?_
      | refine LeO.bind ?_ (fun _ => ?_)
theorem laminaref01_Sum.mono : ∀ a0 k, LeO (laminaref01_Sum.f k a0) (laminaref01_Sum.f (k + 1) a0) := by
  intro a0 k
  have ih0 := laminaref01_Sum.mono_l k
  unfold laminaref01_Sum.f
  repeat' first
      | (with_reducible exact ih0 _ _ _)
      | (with_reducible exact laminaref01_over.mono _ _ _)
      | (with_reducible exact LeO.refl _)
      | (with_reducible exact LeO.none _)
      | (with_reducible refine LeO.ite ?_ ?_)
      | (with_reducible refine LeO.bind ?_ (fun _ => ?_))
      | exact ih0 _ _ _
      | exact laminaref01_over.mono _ _ _
      | exact LeO.none _
      | refine LeO.ite ?_ ?_
      | refine LeO.bind ?_ (fun _ => ?_)
set_option maxHeartbeats 8000000 in
set_option maxRecDepth 100000 in
theorem laminaref01_Sum.calls (k : Nat) (A0 : Option Addr) (c0 : Nat) (l0 : List Int) (r : Int) (w : World) (hr0 : Kd.C (Kd.int .u8) w A0 l0.length l0) (hc0 : l0.length ≤ c0) (h : laminaref01_Sum.f k l0 = some r) :
    Calls Try.prog 30 #[.slice A0 l0.length c0] w fun e w' => e = .returned (.int .u32 r) ∧ Drawn0 w w' := by
  have HR0 := Aside0.mk hr0
  have HC0 := Aside0.mk hc0
  clear hr0 hc0
  have H : (laminaref01_Sum.l0 k l0 4294967295 0) = some r := h
  clear h
  have H' := Aside0.mk H
  clear H
  go_enter Try.func30, Try.ntmps30
  go_wp2
  go_loopg [3, 4] k (fun kq v3 v4 w' => ∃ (x3_1 : Int) (x4_1 : Int), v3 = .int .u32 x3_1 ∧ v4 = .int .i64 x4_1 ∧ Aside0 (laminaref01_Sum.l0 kq l0 x3_1 x4_1 = some r) ∧ Aside0 (kq ≤ k) ∧ Drawn0 w w')
  case atStart => exact ⟨(4294967295), (0), (by first | rfl | (simp; done) | (simp [*]; done)), (by first | rfl | (simp; done) | (simp [*]; done)), H', ⟨Nat.le_refl _⟩, by repeat (first | exact Drawn0.refl _ | apply Drawn0.step)⟩
  case round =>
    clear H'
    obtain ⟨x3_1, x4_1, rfl, rfl, HA, HK1, ⟨m1, rfl⟩⟩ := hrel
    cases gk with
    | zero => exact absurd HA.out (by simp [laminaref01_Sum.l0])
    | succ k1 =>
      have H := HA.out
      clear HA
      simp only [laminaref01_Sum.l0] at H
      by_cases c2 : x4_1 < (l0.length : Int)
      · rw [if_pos c2] at H
        have c2b0 : decide (x4_1 < (l0.length : Int)) = true := decide_eq_true c2
        clear c2
        by_cases c3 : 0 ≤ x4_1
        · rw [if_pos c3] at H
          have c3b0 : decide (0 ≤ x4_1) = true := decide_eq_true c3
          clear c3
          replace H := Option.bind_eq_some_iff.mp H
          obtain ⟨t107, A40, H⟩ := H
          replace H : (laminaref01_Sum.l0 k1 l0 t107 (wrap64 (x4_1 + 1))) = some r := H
          have A4 := Aside0.mk A40
          clear A40
          have H' := Aside0.mk H
          clear H
          have p106 : 0 ≤ (x4_1 : Int) := of_decide_eq_true (by first | (with_reducible assumption) | assumption)
          have q106 : x4_1 < (l0.length : Int) := of_decide_eq_true (by first | (with_reducible assumption) | assumption)
          obtain ⟨ad106, e106, hx106_0⟩ := Kd.at_int HR0.out x4_1 p106 q106
          cases e106
          replace p106 := eq_true p106
          replace q106 := eq_true q106
          go_wp2_with (first | ((with_reducible refine gate_callee (f := 42) rfl ?_); refine goesL_ (some 18) rfl rfl Try.func42 (by kernel_rfl) rfl #[.int .u32 (Go.bits .xor .u32 x3_1 ((rd l0 x4_1) % 4294967296)), .int .i64 8] rfl (by (try simp only [List.map_toArray, List.map_cons, List.map_nil]); first | done | rfl | (simp only [List.length_drop, List.length_take]; rfl)) ?_; (with_reducible refine (laminaref01_over.calls k1 (Go.bits .xor .u32 x3_1 ((rd l0 x4_1) % 4294967296)) 8 t107 _ A4.out).mono ?_); rintro e w' ⟨rfl, ⟨nd, rfl⟩⟩; refine ⟨_, rfl, ?_⟩))
          go_roundg k1
          case measure => have := HK1.out; omega
          case rel => exact ⟨(t107), (wrap64 (x4_1 + 1)), (by first | rfl | (simp; done) | (simp [*]; done)), (by first | rfl | (simp; done) | (simp [*]; done)), H', ⟨by have := HK1.out; omega⟩, by repeat (first | exact Drawn0.refl _ | apply Drawn0.step)⟩
        · rw [if_neg c3] at H
          exact absurd H (by simp)
      · rw [if_neg c2] at H
        have c2b0 : decide (x4_1 < (l0.length : Int)) = false := decide_eq_false c2
        clear c2
        obtain rfl := Option.some.inj H
        go_wp2
        go_ret
        exact ⟨by first | rfl | (simp; done) | (simp [*]; done), by repeat (first | exact Drawn0.refl _ | apply Drawn0.step)⟩

-- AUX crcr
theorem over_ev (d : Nat) : ∀ (k : Nat) (b : BitVec 32) (n i : Int), n - i = d → 0 ≤ i → n ≤ 1000 → d < k → laminaref01_over.l0 k (b.toNat : Int) n i = some ((stepsB d b).toNat : Int) := by
  induction d with
  | zero =>
    intro k b n i hd hi hn hk
    obtain ⟨k, rfl⟩ : ∃ m, k = m + 1 := ⟨k - 1, by omega⟩
    simp only [laminaref01_over.l0]
    rw [if_neg (by omega)]
    rfl
  | succ d ih =>
    intro k b n i hd hi hn hk
    obtain ⟨k, rfl⟩ : ∃ m, k = m + 1 := ⟨k - 1, by omega⟩
    simp only [laminaref01_over.l0]
    have hw : wrap64 (i + 1) = i + 1 := by unfold wrap64; omega
    have hb : b.toNat < 4294967296 := b.isLt
    have e1 : Int.tmod (b.toNat : Int) 2 = ((b.toNat % 2 : Nat) : Int) := by rw [Int.tmod_eq_emod_of_nonneg (by omega)]; omega
    have e2 : (Int.tdiv (b.toNat : Int) 2) % (4294967296 : Int) = ((b >>> 1).toNat : Int) := by
      rw [Int.tdiv_eq_ediv_of_nonneg (by omega), BitVec.toNat_ushiftRight, Nat.shiftRight_eq_div_pow]
      omega
    have g : b.getLsbD 0 = decide (b.toNat % 2 = 1) := by rw [BitVec.getLsbD, Nat.testBit_zero]
    have es : stepsB (d + 1) b = stepsB d (stepB b) := stepsB_add d 1 b
    rw [if_pos (by omega), hw, e1, e2, es]
    by_cases h1 : b.toNat % 2 = 1
    · rw [if_pos (by omega)]
      have : stepB b = (b >>> 1) ^^^ polyB := by unfold stepB; rw [g, h1]; simp
      rw [show (2197175160 : Int) = ((polyB.toNat : Nat) : Int) from rfl, xor_b, this]
      exact ih k _ n (i + 1) (by omega) (by omega) hn (by omega)
    · rw [if_neg (by omega)]
      have : stepB b = (b >>> 1) := by unfold stepB; rw [g]; simp [h1]
      rw [this]
      exact ih k _ n (i + 1) (by omega) (by omega) hn (by omega)
theorem refsum_ev (l : List Int) (hb : IsBytes l) (hl : l.length ≤ 1000000) (d : Nat) : ∀ (k i : Nat) (x : BitVec 32), i + d = l.length → d + 9 < k →
    laminaref01_Sum.l0 k l (x.toNat : Int) i = some ((ones ^^^ regB x (bvs (l.drop i))).toNat : Int) := by
  induction d with
  | zero =>
    intro k i x hd hk
    obtain ⟨k, rfl⟩ : ∃ m, k = m + 1 := ⟨k - 1, by omega⟩
    simp only [laminaref01_Sum.l0]
    rw [if_neg (by omega), List.drop_of_length_le (by omega)]
    show some _ = some ((ones ^^^ x).toNat : Int)
    have hx : x.toNat < 4294967296 := x.isLt
    congr 1
    have : (ones ^^^ x).toNat = 4294967295 - x.toNat := by
      have : ones ^^^ x = ~~~x := by
        apply BitVec.eq_of_getLsbD_eq
        intro i hi
        have ho : ones.getLsbD i = true := by
          rw [show ones = BitVec.allOnes 32 by decide, BitVec.getLsbD_allOnes]
          simp [hi]
        rw [BitVec.getLsbD_xor, BitVec.getLsbD_not, ho]
        simp [hi]
      rw [this, BitVec.toNat_not]
    rw [this]; omega
  | succ d ih =>
    intro k i x hd hk
    obtain ⟨k, rfl⟩ : ∃ m, k = m + 1 := ⟨k - 1, by omega⟩
    simp only [laminaref01_Sum.l0]
    have hw : wrap64 ((i : Int) + 1) = ((i + 1 : Nat) : Int) := by unfold wrap64; omega
    have hi : i < l.length := by omega
    have hr : rd l i = l[i] := by simp [rd, hi]
    have hc := hb l[i] (List.getElem_mem hi)
    have e : Go.bits .xor .u32 (x.toNat : Int) (rd l i % 4294967296) = ((x ^^^ BitVec.ofInt 32 l[i]).toNat : Int) := by
      rw [hr, Int.emod_eq_of_lt hc.1 (by omega)]
      conv => lhs; rw [← bv_toNat l[i] hc.1 (by omega)]
      exact xor_b _ _
    rw [if_pos (by omega), if_pos (by omega), hw, e]
    have ho : laminaref01_over.f k ((x ^^^ BitVec.ofInt 32 l[i]).toNat : Int) 8 = some ((stepsB 8 (x ^^^ BitVec.ofInt 32 l[i])).toNat : Int) := over_ev 8 k _ 8 0 (by omega) (by omega) (by omega) (by omega)
    rw [ho]
    simp only [Option.bind_some]
    rw [ih k (i + 1) _ (by omega) (by omega), List.drop_eq_getElem_cons hi]
    rfl
theorem refsum (l : List Int) (hb : IsBytes l) (hl : l.length ≤ 1000000) : laminaref01_Sum.f (l.length + 20) l = some (sumI [l]) := by
  have := refsum_ev l hb hl l.length (l.length + 20) 0 ones (by omega) (by omega)
  rw [sum1_b l hb]
  exact this

/-! ### laminanum_Kept: function 13 -/
/-- The bytes are read out of a copy with marks. -/
theorem Kp_C {w : World} {base g cap : Nat} {ok : Nat → Prop} {l : List Int} (h : Kd.R (Kd.int .u8) 5 w base ok (.slice (some ⟨g, 0, none⟩) (l ++ [165, 90]).length cap) (l ++ [165, 90])) :
    Kd.C (Kd.int .u8) w (some ⟨g, 0, none⟩) l.length l ∧ l.length + 2 ≤ cap := by
  obtain ⟨h0, h1, h2⟩ := Kd.R_reads' h
  refine ⟨?_, by simpa using h1⟩
  have := Kd.C_take (m := l.length) h2 (by simp)
  simpa using this
set_option maxRecDepth 100000 in
theorem laminanum_Kept.calls (g cap base : Nat) (ok : Nat → Prop) (A1 : Option Addr) (c1 : Nat) (l : List Int) (w : World)
    (hR : Kd.R (Kd.int .u8) 5 w base ok (.slice (some ⟨g, 0, none⟩) (l ++ [165, 90]).length cap) (l ++ [165, 90])) (hr1 : Kd.C (Kd.int .u8) w A1 l.length l) (hn : l.length ≤ 900000) :
    Calls Try.prog 13 #[.slice (some ⟨g, 0, none⟩) l.length cap, .slice A1 l.length c1] w fun e w' => e = .returned (.bool true) ∧ Drawn0 w w' := by
  obtain ⟨hC, hcap⟩ := Kp_C hR
  have hcv3 := fun c => Kd.C_string (P := Try.prog) (A := some ⟨g, 0, none⟩) (c := c) Try.underlying22 Try.underlying5 Try.underlying9 hC
  have hcv4 := Kd.C_string (P := Try.prog) (A := A1) (c := c1) Try.underlying22 Try.underlying5 Try.underlying9 hr1
  have e0 := (Kd.R_celln (enc := Value.int .u8) (h1 := fun _ => rfl) 0 hR (l.length : Int) (by omega) (by first | (simp; done) | (simp; omega))).1
  have e1 := (Kd.R_celln (enc := Value.int .u8) (h1 := fun _ => rfl) 0 hR ((l.length : Int) + 1) (by omega) (by first | (simp; done) | (simp; omega))).1
  have f0 : rdOf 0 (l ++ [165, 90]) (l.length : Int) = 165 := by simp [rdOf]
  have f1 : rdOf 0 (l ++ [165, 90]) ((l.length : Int) + 1) = 90 := by
    have : ((l.length : Int) + 1).toNat = l.length + 1 := by omega
    simp [rdOf, this]
  rw [f0, Int.toNat_natCast] at e0
  rw [f1, show ((l.length : Int) + 1).toNat = l.length + 1 by omega] at e1
  clear f0 f1
  have HR := Aside0.mk hR
  have HC := Aside0.mk hC
  have HD := Aside0.mk hr1
  clear hR hC hr1
  go_enter Try.func13, Try.ntmps13
  go_wp2
  go_ret
  exact ⟨rfl, Drawn0.refl _⟩

-- AUX appendw
theorem own_kept {w w' : World} {base e : Nat} {v : Value} {n : Nat} {xs : List Value} {row : Option Nat} (h : w.ownsRow base e 1 v n xs) (hg : w.grownBy w' row) (hne : v.ownBlock = none ∨ v.ownBlock ≠ row) : w'.ownsRow base e 1 v n xs := by
  refine ⟨h.1, ?_⟩
  rcases h.2 with h0 | ⟨g, cap, cur, rfl, hb, hh, h3⟩
  · exact .inl h0
  · have hlt : g < w.heap.size := by
      rcases Nat.lt_or_ge g w.heap.size with h4 | h4
      · exact h4
      · rw [Array.getElem?_eq_none h4] at hh; cases hh
    refine .inr ⟨g, cap, cur, rfl, hb, ?_, h3⟩
    have h6 : some g ≠ row := by
      rcases hne with h5 | h5
      · cases h5
      · exact h5
    rw [hg.block g hlt h6]
    exact hh
section
variable {P : Program} {ops : Array Oper} {rest : List Oper} {o : Oper} {a : Act} {Q : Exit → Act → World → Prop}
theorem app_exact {w0 W : World} (base : Nat) (hgd : o.guard = none) (s x : Operand) (t e : TypeId) (z : Value) (bytes : Nat)
    (ho : o.op = .call { callee := .builtin .append, args := #[s, x], argTypes := #[t, t] })
    (ht : P.underlying t = some (.slice e)) (hinfo : (P.info? e).map (fun i => (i.zero, i.size, i.bytes)) = some (some z, 1, bytes)) (hz : z.cells.size = 1) (hb0 : 0 < bytes)
    (v : Value) (n : Nat) (xs : List Value) (y : Value) (hs : a.eval s = v) (hx : a.eval x = .slice (some ⟨W.heap.size, 0, none⟩) 1 1) (h1 : y.oneCell' = true)
    (HO : W.ownsRow base e 1 v n xs) (HB : Below base w0 W) (hbase : base ≤ W.heap.size) (hl : (n + 1) * bytes ≤ 140737488355328)
    (h : ∀ v1 w1, w1.ownsRow base e 1 v1 (n + 1) (xs ++ [y]) → Below base w0 w1 →
      ((∃ g cap, v = .slice (some ⟨g, 0, none⟩) n cap ∧ v1 = .slice (some ⟨g, 0, none⟩) (n + 1) cap ∧ W.grownBy w1 (some g)) ∨ ((∃ b, v1.ownBlock = some b ∧ W.heap.size ≤ b) ∧ W.grownBy w1 none)) → wpList P ops Q rest (a.put o.dst v1) w1) :
    wpList P ops Q (o :: rest) a (W.alloc (.cells #[y] e)) := by
  have key : ∀ v1 w1, (Builtin.append_ #[t, t] o.type #[v, .slice (some ⟨W.heap.size, 0, none⟩) 1 1]).run P (W.alloc (.cells #[y] e)) = .ok v1 w1 → wpList P ops Q rest (a.put o.dst v1) w1 → wpList P ops Q (o :: rest) a (W.alloc (.cells #[y] e)) := by
    intro v1 w1 hr hk
    refine wpList_plain hgd fun K hK => ?_
    unfold Oper.wp execOp
    simp only [ho, resolve, invoke, builtin, Sem.run_bind, Sem.run_pure, Result.andThen_ok, List.map_toArray, List.map_cons, List.map_nil, hs, hx, hr]
    exact hK _ _ hk
  rcases HO.2 with ⟨rfl, rfl⟩ | ⟨g, cap, cur, rfl, hbg, hg, hnc, hcm, hcs, htake⟩
  · refine print_append_cells (w0 := w0) base hgd s x t e z 1 bytes ho ht hinfo hz (by omega) hb0 _ 0 xs [y] hs hx rfl (by simpa using h1) HO HB hbase hl ?_
    intro v1 w1 hown hb hgr hat
    refine h v1 w1 hown hb (.inr ⟨?_, hgr⟩)
    rcases hat with hat | hat
    · obtain ⟨g, cap, he, _⟩ := hown.form (by omega)
      rw [he] at hat
      cases hat
    · exact hat
  · obtain ⟨i0, hi, hzz⟩ := Option.map_eq_some_iff.1 hinfo
    simp only [Prod.mk.injEq] at hzz
    obtain ⟨hz0, hz1, hz2⟩ := hzz
    have hnews : ∀ j u, [y][j]? = some u → (W.alloc (.cells #[y] e)).cell? ((⟨W.heap.size, 0, none⟩ : Addr).add j) = some u := by
      simpa using World.news_of_block (cs := #[y]) (t := e) (fr := (0, 0)) (heap_alloc_new W (.cells #[y] e))
    by_cases hroom : n + 1 ≤ cap
    · obtain ⟨w1, hr, hown, hgr⟩ := run_append_own_spare (P := P) (W.alloc (.cells #[y] e)) base t o.type e i0 1 ht hi hz1 g n cap xs (HO.alloc _) ⟨W.heap.size, 0, none⟩ 1 1 [y] rfl hnews (by simpa using h1) hroom
      refine key _ _ hr (h _ _ hown ((HB.alloc hbase _).grown hgr (by simp; omega) (fun k hk => by injection hk with hk; subst hk; exact hbg)) (.inl ⟨g, cap, rfl, rfl, World.grownBy.trans (World.grownBy_alloc W _ _) hgr⟩))
    · have hlen : n + 1 ≤ 140737488355328 := Nat.le_trans (Nat.le_mul_of_pos_right _ hb0) hl
      obtain ⟨v1, w1, hr, hown, hgr⟩ := run_append_arg_grows (P := P) (W.alloc (.cells #[y] e)) t o.type e i0 z 1 bytes ht hi hz0 hz1 hz2 hz (by omega) ⟨g, 0, none⟩ n cap xs HO.1 ((HO.alloc _).cells (g := g) rfl) ⟨W.heap.size, 0, none⟩ 1 1 [y] rfl hnews (by omega) (by simp only [maxLen]; omega) hl
      have hown2 : w1.ownsRow base e 1 v1 (n + 1) (xs ++ [y]) := own_weaken hown (by simp; omega)
      obtain ⟨g2, cap2, he, hb2, hl2⟩ := hown.form (by omega)
      refine key _ _ hr (h _ _ hown2 ((HB.alloc hbase _).grown hgr (by simp; omega) (fun k hk => by cases hk)) (.inr ⟨⟨g2, by rw [he]; rfl, by simp at hb2; omega⟩, World.grownBy.trans (World.grownBy_alloc W _ _) hgr⟩))
end

-- AUX apartw
/-- One own row of bytes. -/
abbrev Ow (w : World) (base : Nat) (v : Value) (xs : List Int) : Prop := w.ownsRow base 5 1 v xs.length (encs (Value.int .u8) xs)
def pat (i n : Nat) : List Int := (List.range n).map fun j : Nat => (31 * (i : Int) + 3 * (j : Int) + 1) % 256
def patO (i : Nat) (xs : List Int) (j : Nat) : List Int := pat i j ++ xs.drop j
theorem pat_len (i n : Nat) : (pat i n).length = n := by simp [pat]
theorem patO_len (i : Nat) (xs : List Int) (j : Nat) (h : j ≤ xs.length) : (patO i xs j).length = xs.length := by simp [patO, pat_len]; omega
theorem pat_succ (i n : Nat) : pat i (n + 1) = pat i n ++ [(31 * (i : Int) + 3 * (n : Int) + 1) % 256] := by
  unfold pat
  rw [List.range_succ, List.map_append, List.map_singleton]
theorem patO_step (i : Nat) (xs : List Int) (j : Nat) (h : j < xs.length) : (patO i xs j).set j ((31 * (i : Int) + 3 * (j : Int) + 1) % 256) = patO i xs (j + 1) := by
  unfold patO
  rw [List.set_append_right _ _ (by rw [pat_len]; omega), pat_len, Nat.sub_self, List.drop_eq_getElem_cons h, List.set_cons_zero, pat_succ, List.append_assoc, List.singleton_append]
theorem patO_zero (i : Nat) (xs : List Int) : patO i xs 0 = xs := by simp [patO, pat]
theorem patO_all (i : Nat) (xs : List Int) : patO i xs xs.length = pat i xs.length := by simp [patO]
theorem pat_take (i n m : Nat) (h : m ≤ n) : (pat i n).take m = pat i m := by
  unfold pat
  rw [← List.map_take, List.take_range, Nat.min_eq_left h]
theorem pat_get (i n j : Nat) (h : j < n) : rd (pat i n) j = (31 * (i : Int) + 3 * (j : Int) + 1) % 256 := by
  show (pat i n).getD (j : Int).toNat 0 = _
  rw [Int.toNat_natCast, List.getD_eq_getElem?_getD]
  simp [pat, h]
theorem Ow_R {w : World} {base : Nat} {v : Value} {xs : List Int} (h : Ow w base v xs) : Kd.R (Kd.int .u8) 5 w base (fun _ => True) v xs := Kd.R_of_own (enc := Value.int .u8) (h1 := fun _ => rfl) h (fun _ _ => trivial)
theorem R_Ow {w : World} {base : Nat} {ok : Nat → Prop} {v : Value} {xs : List Int} (h : Kd.R (Kd.int .u8) 5 w base ok v xs) : Ow w base v xs := Kd.own_of_R (enc := Value.int .u8) (h1 := fun _ => rfl) h
/-- What phase one has made of row i. -/
def ph1 (xss : Nat → List Int) (k j i : Nat) : List Int := if i < k then pat i (xss i).length else if i = k then patO i (xss i) j else xss i
theorem ph1_len (xss : Nat → List Int) (k j i : Nat) (hj : j ≤ (xss k).length) : (ph1 xss k j i).length = (xss i).length := by
  unfold ph1
  split
  · rw [pat_len]
  · split
    · rename_i h; subst h; rw [patO_len _ _ _ hj]
    · rfl
theorem ph1_other (xss : Nat → List Int) (k j j' i : Nat) (h : i ≠ k) : ph1 xss k j i = ph1 xss k j' i := by
  unfold ph1
  rw [if_neg h, if_neg h]
theorem ph1_next (xss : Nat → List Int) (k i : Nat) : ph1 xss k (xss k).length i = ph1 xss (k + 1) 0 i := by
  unfold ph1
  by_cases h1 : i < k
  · rw [if_pos h1, if_pos (by omega)]
  · rw [if_neg h1]
    by_cases h2 : i = k
    · subst h2
      rw [if_pos rfl, if_pos (by omega), patO_all]
    · rw [if_neg h2, if_neg (by omega)]
      split
      · rw [patO_zero]
      · rfl
theorem ph1_store {vs : List Value} {xss : Nat → List Int} {wr : World} {base k j g n c : Nat} (HO : ∀ (i : Nat) (v : Value), vs[i]? = some v → Ow wr base v (ph1 xss k j i)) (hv : vs[k]? = some (.slice (some ⟨g, 0, none⟩) n c)) (hn : (xss k).length = n) (hj : j < n)
    (hd : ∀ (i j : Nat) (u v : Value), i ≠ j → vs[i]? = some u → vs[j]? = some v → u.ownBlock = none ∨ u.ownBlock ≠ v.ownBlock) :
    (∀ (i : Nat) (v : Value), vs[i]? = some v → Ow (wr.setCell ⟨g, j, none⟩ (.int .u8 ((31 * (k : Int) + 3 * (j : Int) + 1) % 256))) base v (ph1 xss k (j + 1) i)) ∧ wr.grownBy (wr.setCell ⟨g, j, none⟩ (.int .u8 ((31 * (k : Int) + 3 * (j : Int) + 1) % 256))) (some g) := by
  have hk := HO k _ hv
  have hlen : (ph1 xss k j k).length = n := by rw [ph1_len xss k j k (by omega), hn]
  have hR := Ow_R hk
  have e : ph1 xss k j k = patO k (xss k) j := by unfold ph1; rw [if_neg (by omega), if_pos rfl]
  have e2 : ph1 xss k (j + 1) k = patO k (xss k) (j + 1) := by unfold ph1; rw [if_neg (by omega), if_pos rfl]
  subst hlen
  have hP := Kd.R_putg (enc := Value.int .u8) (h1 := fun _ => rfl) hR (j : Int) ((31 * (k : Int) + 3 * (j : Int) + 1) % 256)
  rw [Int.toNat_natCast] at hP
  refine ⟨fun i v hi => ?_, hP.2⟩
  by_cases hik : i = k
  · subst hik
    rw [hv] at hi
    injection hi with hi
    subst hi
    rw [e2, ← patO_step i (xss i) j (by omega), ← e]
    exact R_Ow hP.1
  · rw [ph1_other xss k (j + 1) j i hik]
    refine own_kept (HO i v hi) hP.2 ?_
    rcases hd i k _ _ hik hi hv with h | h
    · exact .inl h
    · exact .inr h
/-- Rows of bytes are none of the rows of slices. -/
theorem Ow_types {w : World} {base b2 n : Nat} {u v : Value} {xs : List Int} {ys : List Value} (h : Ow w base u xs) (h2 : w.ownsRow b2 22 1 v n ys) : u.ownBlock = none ∨ u.ownBlock ≠ v.ownBlock := by
  rcases h.2 with ⟨rfl, _⟩ | ⟨g, cap, cur, rfl, _, hg, _⟩
  · exact .inl rfl
  · right
    exact own_ne h2 hg (by decide)
theorem Ow_lt {w : World} {base : Nat} {u : Value} {xs : List Int} (h : Ow w base u xs) : ∀ b, u.ownBlock = some b → b < w.heap.size := fun b hb => (World.ownsRow.lt h b hb).2
/-- What is known while the rows grow: row i of 'us' has grown, 'vs' are as they were. -/
def ph2 (vs : List Value) (xss : Nat → List Int) (b0 base S : Nat) (w wr : World) (us : List Value) (v6 : Value) : Prop :=
  (∀ (i : Nat) (u : Value), us[i]? = some u → Ow wr base u (pat i ((xss i).length + 10))) ∧
  (∀ (i : Nat) (v : Value), vs[i]? = some v → Ow wr base v (pat i (xss i).length)) ∧
  (∀ (i : Nat) (u v : Value), us[i]? = some u → vs[i]? = some v → u.ownBlock = v.ownBlock ∨ ∃ b, u.ownBlock = some b ∧ S ≤ b) ∧
  (∀ (i j : Nat) (u u' : Value), i ≠ j → us[i]? = some u → us[j]? = some u' → u.ownBlock = none ∨ u.ownBlock ≠ u'.ownBlock) ∧
  wr.heap[b0]? = some (.cells vs.toArray 22 (0, 0)) ∧ wr.ownsRow base 22 1 v6 us.length us ∧ Below base w wr ∧ S ≤ wr.heap.size ∧ (∀ b, v6.ownBlock = some b → S ≤ b)
/-- The row k that grows: m bytes so far. -/
def ph2l (vs us : List Value) (S base n : Nat) (wr : World) (k m : Nat) (l : Value) : Prop :=
  Ow wr base l (pat k m) ∧
  ((∃ g c, vs[k]? = some (.slice (some ⟨g, 0, none⟩) n c) ∧ l = .slice (some ⟨g, 0, none⟩) m c) ∨ (∃ v, vs[k]? = some v ∧ v.ownBlock = none ∧ l.ownBlock = none) ∨ (∃ b, l.ownBlock = some b ∧ S ≤ b)) ∧
  (∀ (i : Nat) (u : Value), us[i]? = some u → l.ownBlock = none ∨ l.ownBlock ≠ u.ownBlock)
theorem nokept (o : Option Nat) : o = none ∨ o ≠ none := by
  cases o
  · exact .inl rfl
  · exact .inr (by simp)
theorem encs_pat (k m : Nat) : encs (Value.int .u8) (pat k (m + 1)) = encs (Value.int .u8) (pat k m) ++ [.int .u8 ((31 * (k : Int) + 3 * (m : Int) + 1) % 256)] := by
  rw [pat_succ]
  simp [encs]
theorem ph2_app {vs us : List Value} {xss : Nat → List Int} {b0 base S n k m : Nat} {w W w1 : World} {v6 l v1 : Value} (H : ph2 vs xss b0 base S w W us v6) (L : ph2l vs us S base n W k m l) (hn : (xss k).length = n) (hnm : n ≤ m)
    (hS : ∀ (i : Nat) (v : Value) (b : Nat), vs[i]? = some v → v.ownBlock = some b → b < S) (hd : ∀ (i j : Nat) (u v : Value), i ≠ j → vs[i]? = some u → vs[j]? = some v → u.ownBlock = none ∨ u.ownBlock ≠ v.ownBlock) (hb0 : b0 < S)
    (h1 : w1.ownsRow base 5 1 v1 (m + 1) (encs (Value.int .u8) (pat k m) ++ [.int .u8 ((31 * (k : Int) + 3 * (m : Int) + 1) % 256)])) (hb : Below base w w1)
    (hg : (∃ g cap, l = .slice (some ⟨g, 0, none⟩) m cap ∧ v1 = .slice (some ⟨g, 0, none⟩) (m + 1) cap ∧ W.grownBy w1 (some g)) ∨ ((∃ b, v1.ownBlock = some b ∧ W.heap.size ≤ b) ∧ W.grownBy w1 none)) :
    ph2 vs xss b0 base S w w1 us v6 ∧ ph2l vs us S base n w1 k (m + 1) v1 := by
  obtain ⟨Ha, Hc, Hd1, Hd2, Hh, Hf, _, Hs, Hv6⟩ := H
  obtain ⟨L1, L2, L3⟩ := L
  rw [← encs_pat] at h1
  have hOw : Ow w1 base v1 (pat k (m + 1)) := by
    show w1.ownsRow base 5 1 v1 (pat k (m + 1)).length _
    rw [pat_len]
    exact h1
  rcases hg with ⟨g, cap, rfl, rfl, hg⟩ | ⟨⟨b, hvb, hbb⟩, hg⟩
  · have hlb : (Value.slice (some ⟨g, 0, none⟩) m cap).ownBlock = some g := rfl
    have hlb1 : (Value.slice (some ⟨g, 0, none⟩) (m + 1) cap).ownBlock = some g := rfl
    refine ⟨⟨fun i u hi => own_kept (Ha i u hi) hg ?_, fun i v hi => ?_, Hd1, Hd2, ?_, own_kept Hf hg ?_, hb, Nat.le_trans Hs hg.size, Hv6⟩, hOw, ?_, fun i u hi => ?_⟩
    · rcases L3 i u hi with h | h
      · cases h
      · exact .inr (fun e => h (by rw [hlb, e]))
    · by_cases hv : v.ownBlock = some g
      · rcases L2 with ⟨g', c, hk, hl⟩ | ⟨v', hk, _, hl⟩ | ⟨b, hl, hbS⟩
        · injection hl with hA _ hcc
          injection hA with hA
          injection hA with hA
          subst hA hcc
          by_cases hik : i = k
          · subst hik
            rw [hk] at hi
            injection hi with hi
            subst hi
            rcases hOw.2 with ⟨h0, _⟩ | ⟨g2, cap2, cur, he, hbg, hhg, hnc, hcm, hcs, htk⟩
            · cases h0
            · injection he with hA2 _ hcc2
              injection hA2 with hA2
              injection hA2 with hA2
              subst hA2 hcc2
              rw [pat_len] at hnc htk
              refine ⟨by rw [encs_length, Nat.mul_one], .inr ⟨g, cap, cur, ?_, hbg, hhg, ?_, hcm, hcs, ?_⟩⟩
              · rw [pat_len, hn]
              · rw [pat_len]; omega
              · have := congrArg (List.take n) htk
                rw [List.take_take, Nat.min_eq_left (by omega)] at this
                rw [pat_len, Nat.mul_one, hn, this]
                unfold encs
                rw [← List.map_take, pat_take _ _ _ (by omega)]
          · rcases hd i k v _ hik hi hk with h | h
            · rw [hv] at h; cases h
            · exact absurd hv h
        · cases hl
        · rw [hlb] at hl
          injection hl with hl
          subst hl
          have := hS i v g hi hv
          omega
      · exact own_kept (Hc i v hi) hg (.inr hv)
    · rw [hg.block b0 (by omega) (own_ne L1 Hh (by decide))]
      exact Hh
    · rcases Ow_types L1 Hf with h | h
      · cases h
      · exact .inr (fun e => h (by rw [hlb, e]))
    · rcases L2 with ⟨g', c, hk, hl⟩ | ⟨v', hk, _, hl⟩ | ⟨b, hl, hbS⟩
      · injection hl with hA _ hcc
        subst hcc
        exact .inl ⟨g', cap, hk, by rw [hA]⟩
      · cases hl
      · exact .inr (.inr ⟨b, hl, hbS⟩)
    · exact L3 i u hi
  · refine ⟨⟨fun i u hi => own_kept (Ha i u hi) hg (nokept _), fun i v hi => own_kept (Hc i v hi) hg (nokept _), Hd1, Hd2, ?_, own_kept Hf hg (nokept _), hb, Nat.le_trans Hs hg.size, Hv6⟩, hOw, .inr (.inr ⟨b, hvb, by omega⟩), fun i u hi => .inr ?_⟩
    · rw [hg.block b0 (by omega) (by simp)]
      exact Hh
    · rw [hvb]
      intro e
      have := Ow_lt (Ha i u hi) b e.symm
      omega
theorem ph2_push {vs us : List Value} {xss : Nat → List Int} {b0 base S n k : Nat} {w W w1 : World} {v6 l v1 : Value} (H : ph2 vs xss b0 base S w W us v6) (L : ph2l vs us S base n W k (n + 10) l) (hk : us.length = k) (hn : (xss k).length = n)
    (hb0 : b0 < S) (h1 : w1.ownsRow base 22 1 v1 (us.length + 1) (us ++ [l])) (hb : Below base w w1) (hg : W.grownBy w1 v6.ownBlock) (hat : v1.ownBlock = v6.ownBlock ∨ ∃ b, v1.ownBlock = some b ∧ W.heap.size ≤ b) :
    ph2 vs xss b0 base S w w1 (us ++ [l]) v1 := by
  obtain ⟨Ha, Hc, Hd1, Hd2, Hh, Hf, _, Hs, Hv6⟩ := H
  obtain ⟨L1, L2, L3⟩ := L
  have lastk : ∀ (i : Nat) (u : Value), (us ++ [l])[i]? = some u → us[i]? = some u ∨ (i = k ∧ u = l) := by
    intro i u hi
    rcases Nat.lt_or_ge i us.length with h | h
    · rw [List.getElem?_append_left h] at hi
      exact .inl hi
    · rw [List.getElem?_append_right h] at hi
      rcases hq : i - us.length with _ | q
      · rw [hq] at hi
        simp at hi
        exact .inr ⟨by omega, hi.symm⟩
      · rw [hq] at hi
        simp at hi
  refine ⟨fun i u hi => ?_, fun i v hi => own_kept (Hc i v hi) hg (Ow_types (Hc i v hi) Hf), fun i u v hi hv => ?_, fun i j u u' hij hi hj => ?_, ?_, by rw [List.length_append, List.length_singleton]; exact h1, hb, Nat.le_trans Hs hg.size, fun b hbb => ?_⟩
  · rcases lastk i u hi with h | ⟨rfl, rfl⟩
    · exact own_kept (Ha i u h) hg (Ow_types (Ha i u h) Hf)
    · rw [hn]
      exact own_kept L1 hg (Ow_types L1 Hf)
  · rcases lastk i u hi with h | ⟨rfl, rfl⟩
    · exact Hd1 i u v h hv
    · rcases L2 with ⟨g', c, hk2, hl⟩ | ⟨v', hk2, h0, hl⟩ | ⟨b, hl, hbS⟩
      · rw [hv] at hk2
        injection hk2 with hk2
        subst hk2 hl
        exact .inl rfl
      · rw [hv] at hk2
        injection hk2 with hk2
        subst hk2
        exact .inl (by rw [hl, h0])
      · exact .inr ⟨b, hl, hbS⟩
  · rcases lastk i u hi with h | ⟨rfl, rfl⟩
    · rcases lastk j u' hj with h' | ⟨rfl, rfl⟩
      · exact Hd2 i j u u' hij h h'
      · rcases L3 i u h with h2 | h2
        · cases hu : u.ownBlock
          · exact .inl rfl
          · exact .inr (by rw [h2]; simp)
        · exact .inr (fun e => h2 e.symm)
    · rcases lastk j u' hj with h' | ⟨rfl, rfl⟩
      · exact L3 j u' h'
      · exact absurd rfl hij
  · rw [hg.block b0 (by omega) (fun e => by have := Hv6 b0 e.symm; omega)]
    exact Hh
  · rcases hat with h | ⟨b', h, hb'⟩
    · exact Hv6 b (by rw [← h]; exact hbb)
    · rw [h] at hbb
      injection hbb with hbb
      omega
def lenV : Value → Nat
  | .slice _ n _ => n
  | _ => 0

end Go.Proofs.Ytgnpmephgdghhaa.Hp
