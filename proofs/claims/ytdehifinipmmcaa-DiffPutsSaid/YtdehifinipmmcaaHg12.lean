/- Contracts of functions of the given program, and what they lean on: written by this session's own program, out of hand texts laid into the kit's printer. -/
import Derived.Test.YtdehifinipmmcaaHp0
import Derived.Test.YtdehifinipmmcaaHg1
import Derived.Test.YtdehifinipmmcaaHg8
namespace Go.Proofs.Ytdehifinipmmcaa.Hp
open Go.RowKit Go.Proofs.YtdehifinipmmcaaW.PrintWords Go.Proofs.YtdehifinipmmcaaW.PrintLast Go.Proofs.YtdehifinipmmcaaW.PrintMore
attribute [local go_sem] max2_int min2_int max_two min_two max_three min_three max_four min_four   -- for this text's walks alone
set_option linter.unusedVariables false
set_option linter.unusedSimpArgs false

/-! ### diff_Between: function 19 -/
set_option maxRecDepth 100000 in
theorem diff_Between.calls (A0 : Option Addr) (c0 : Nat) (l0 : List Int) (A1 : Option Addr) (c1 : Nat) (l1 : List Int) (o : Int) (w : World) (hr0 : Kd.C (Kd.int .u8) w A0 l0.length l0) (hc0 : l0.length ≤ c0) (hr1 : Kd.C (Kd.int .u8) w A1 l1.length l1) (hc1 : l1.length ≤ c1) (hl0 : l0.length ≤ 1000000) (hl1 : l1.length ≤ 1000000) :
    Calls Try.prog 19 #[.slice A0 l0.length c0, .slice A1 l1.length c1, .int .i64 o] w fun e w' => ∃ v : Value, e = .returned (.tuple #[.agg #[.int .i64 (btwO l0 l1 o).1, .int .i64 (btwO l0 l1 o).2.1, v], errW (btwO l0 l1 o).2.2.2]) ∧ Kd.S k61 61 w' w.heap.size (fun _ => True) v (btwO l0 l1 o).2.2.1 ∧ Below w.heap.size w w' := by
  have HB := fun W (h0 : Kd.C (Kd.int .u8) W A0 l0.length l0) (h1 : Kd.C (Kd.int .u8) W A1 l1.length l1) => diff_between.calls A0 c0 l0 A1 c1 l1 o W h0 hc0 h1 hc1 hl0 hl1
  have HR0 := Aside0.mk hr0
  have HR1 := Aside0.mk hr1
  clear hr0 hr1
  generalize btwO l0 l1 o = q at *
  obtain ⟨q1, q2, q3, q4⟩ := q
  simp only at HB ⊢
  go_enter Try.func19, Try.ntmps19
  go_wp2_with fail
  refine (HB _ (Kd.C_alloc HR0.out _) (Kd.C_alloc HR1.out _)).mono ?_
  rintro e w1 ⟨v, rfl, hs, hb⟩
  have BK := Aside0.mk (blk_below (blk_new w _) hb)
  have HB1 := Aside0.mk (below_step (below_alloc (Below.refl w.heap.size w) _) hb)
  obtain ⟨A, c, rfl⟩ := Kd.S_slice hs
  have HS := Aside0.mk hs
  clear hs hb HB
  have hz0 : w1.cell? ⟨w.heap.size, 0, none⟩ = some (.int .i64 0) := (blk_cell BK.out 0).trans rfl
  have hz1 : w1.cell? ⟨w.heap.size, 1, none⟩ = some (.int .i64 0) := (blk_cell BK.out 1).trans rfl
  have hz2 : w1.cell? ⟨w.heap.size, 2, none⟩ = some (.slice none 0 0) := (blk_cell BK.out 2).trans rfl
  have hf0 : w1.frozen? ⟨w.heap.size, 0, none⟩ = false := blk_frozen BK.out 0
  have hf1 : w1.frozen? ⟨w.heap.size, 1, none⟩ = false := blk_frozen BK.out 1
  have hf2 : w1.frozen? ⟨w.heap.size, 2, none⟩ = false := blk_frozen BK.out 2
  go_wp2
  refine bodyPost_ret (results_ct rfl _ _ w.heap.size 35 #[.int .i64 q1, .int .i64 q2, .slice A q3.length c] (0, 0) _ rfl (blk_put (blk_put (blk_put BK.out 0 _ rfl) 1 _ rfl) 2 _ rfl) Try.underlying35 rfl (by kernel_rfl)) rfl ?_
  refine ⟨_, rfl, ?_, below_set (below_set (below_set HB1.out (Nat.le_refl _)) (Nat.le_refl _)) (Nat.le_refl _)⟩
  have hS := Kd.S_mono (Kd.S_bound HS.out) (ok' := fun j => w.heap.size < j) (fun k hk => by have := hk.2.1; simp at this; omega)
  exact Kd.S_mono (Kd.S_lower (Kd.S_far (Kd.S_far (Kd.S_far hS (fun k hk => Nat.ne_of_gt hk) _) (fun k hk => Nat.ne_of_gt hk) _) (fun k hk => Nat.ne_of_gt hk) _) (by simp)) (fun _ _ => trivial)

/-! ### laminalaw17_alive: function 8 -/
theorem btw_alive : btwO [] (List.replicate 19 0 ++ [1]) 16 = (0, 20, [⟨16, 4, false, [0, 0, 0, 1]⟩], none) := by rfl
set_option maxRecDepth 100000 in
set_option maxHeartbeats 4000000 in
theorem laminalaw17_alive.calls (w : World) : Calls Try.prog 8 #[] w fun e w' => e = .returned (.bool true) ∧ Below w.heap.size w w' := by
  go_enter Try.func8, Try.ntmps8
  go_wp2_with (first | ((with_reducible refine gate_dst (N := 4) rfl ?_); (try (refine gate_guard (by rfl) ?_; dsimp only)); refine Kd.R_make (Kd.int .u8) (w0 := w) w.heap.size 5 rfl (N := 4) rfl 25 _ _ rfl (19 : Int) rfl rfl Try.underlying25 (.int .u8 0) 1 info5 rfl (by decide) (by omega) 0 (ok := fun _ => True) (okp := fun _ => True) rfl (fun _ hk => hk) trivial (by omega) (by omega) (Below.refl _ _) (Nat.le_refl _) ?_; intro v2 w2 ho hb hg hnew; clear hg hnew; rw [show Int.toNat 19 = 19 from rfl] at ho; have HO := Aside0.mk ho; have HB := Aside0.mk hb; clear ho hb) | ((with_reducible refine gate_builtin (b := .append) (xs := #[.tmp 4, .tmp 5]) rfl ?_); at_builtin; refine Kd.R_append (Kd.int .u8) (w0 := w) w.heap.size rfl (.tmp 4) (.tmp 5) 25 5 (.int .u8 0) 1 rfl Try.underlying25 info5 rfl (by decide) (by omega) _ (List.replicate 19 0) 1 [.int .u8 1] (fun _ => True) (fun _ => False) rfl rfl rfl (fun _ h => h.elim) (fun _ _ => trivial) (HO.out) (HB.out) (HB.out.size) ((by simp)) ?_; intro v3 w3 ho hb hg hat; clear hg hat; have HO3 := Aside0.mk ho; have HB3 := Aside0.mk hb; clear ho hb) | fail)
  obtain ⟨A3, c3, rfl, -⟩ := Kd.R_reads HO3.out
  have hB := diff_Between.calls none 0 [] A3 c3 (List.replicate 19 0 ++ [1]) 16 w3 (Kd.R_reads' (Kd.R_nil (Kd.int .u8) 5 w3 0 (fun _ => True))).2.2 (by simp) (Kd.R_reads' HO3.out).2.2 (Kd.R_reads' HO3.out).2.1 (by simp) (by simp)
  rw [btw_alive] at hB
  refine hB.mono ?_
  rintro e w4 ⟨v4, rfl, hs, hb⟩
  have HB4 := Aside0.mk (below_step HB3.out hb)
  obtain ⟨A, c, rfl⟩ := Kd.S_slice hs
  obtain ⟨ad, A3', c3', e, hx0, hx1, hx2, hx3, hl3, -⟩ := at_T61 (Kd.R_reads' (Kd.S_R hs)).2.2 0 (by omega) (by simp)
  subst e
  rw [show rd_T61 [⟨16, 4, false, [0, 0, 0, 1]⟩] 0 = ⟨16, 4, false, [0, 0, 0, 1]⟩ from rfl] at hx0 hx1 hx2 hx3
  rw [show ad.add (Int.toNat 0 * 4) = ad from add_zero_ ad] at hx0 hx1 hx2 hx3
  have hy0 : ∀ ob, (w4.alloc ob).cell? ad = _ := fun ob => Lib.cell?_alloc_some ob hx0
  have hy1 : ∀ ob, (w4.alloc ob).cell? ⟨ad.block, ad.off + 1, none⟩ = _ := fun ob => Lib.cell?_alloc_some ob hx1
  have hy2 : ∀ ob, (w4.alloc ob).cell? ⟨ad.block, ad.off + 2, none⟩ = _ := fun ob => Lib.cell?_alloc_some ob hx2
  have hy3 : ∀ ob, (w4.alloc ob).cell? ⟨ad.block, ad.off + 3, none⟩ = _ := fun ob => Lib.cell?_alloc_some ob hx3
  clear hs hb hB HB HO HO3 HB3 hx0 hx1 hx2 hx3
  rw [errW_none]
  go_wp2
  go_ret
  exact ⟨rfl, below_alloc HB4.out _⟩

end Go.Proofs.Ytdehifinipmmcaa.Hp
