/- Contracts of functions of the given program, and what they lean on: written by this session's own program, out of hand texts laid into the kit's printer. -/
import Derived.Test.YtdehifinipmmcaaHp0
import Derived.Test.YtdehifinipmmcaaHg1
import Derived.Test.YtdehifinipmmcaaHg3
import Derived.Test.YtdehifinipmmcaaHg5
namespace Go.Proofs.Ytdehifinipmmcaa.Hp
open Go.RowKit Go.Proofs.YtdehifinipmmcaaW.PrintWords Go.Proofs.YtdehifinipmmcaaW.PrintLast Go.Proofs.YtdehifinipmmcaaW.PrintMore
attribute [local go_sem] max2_int min2_int max_two min_two max_three min_three max_four min_four   -- for this text's walks alone
set_option linter.unusedVariables false
set_option linter.unusedSimpArgs false

/-! ### laminalaw17_program: function 12 -/
def laminalaw17_program.l0 : Nat → List (S65) → Int → Int → Int → Int → List (S61) → Option (Int × Int × (List (S61)))
  | 0, _, _, _, _, _, _ => none
  | k + 1, x12, x13, x14, x114000, x114001, x114002 => if x14 < x13 then (if 0 ≤ x14 then (if x14 < (x12.length : Int) then ((some (([] : List Int) : List Int)).bind fun y116 => (if y116.length + ((rd_T65 x12 x14).f3).length < 140737488355328 then (if x114002.length < 2932031007402 then (laminalaw17_program.l0 k x12 x13 (wrap64 (x14 + 1)) x114000 x114001 (x114002 ++ [(⟨(rd_T65 x12 x14).f0, (rd_T65 x12 x14).f1, (rd_T65 x12 x14).f2, (y116 ++ ((rd_T65 x12 x14).f3))⟩ : S61)])) else (none)) else (none))) else (none)) else (none)) else (some (x114000, x114001, x114002))
def laminalaw17_program.f (k : Nat) (a0_0 : Int) (a0_1 : Int) (l0_2 : List (S65)) : Option (Int × Int × (List (S61))) := laminalaw17_program.l0 k l0_2 (l0_2.length : Int) 0 a0_0 a0_1 ([] : List (S61))
theorem laminalaw17_program.mono_l : ∀ k, (∀ y0 y1 y2 y3 y4 y5, LeO (laminalaw17_program.l0 k y0 y1 y2 y3 y4 y5) (laminalaw17_program.l0 (k + 1) y0 y1 y2 y3 y4 y5))
  | 0 => fun _ _ _ _ _ _ r h => by simp [laminalaw17_program.l0] at h
  | k + 1 => by
    have ih0 := laminalaw17_program.mono_l k
    · intro y0 y1 y2 y3 y4 y5
      unfold laminalaw17_program.l0
      repeat' first
      | (with_reducible exact ih0 _ _ _ _ _ _)
      | (with_reducible exact LeO.refl _)
      | (with_reducible exact LeO.none _)
      | (with_reducible refine LeO.ite ?_ ?_)
      | (with_reducible refine LeO.bind ?_ (fun _ => ?_))
      | exact ih0 _ _ _ _ _ _
      | exact LeO.none _
      | refine LeO.ite ?_ ?_
      | refine LeO.bind ?_ (fun _ => ?_)
theorem laminalaw17_program.mono : ∀ a0 a1 a2 k, LeO (laminalaw17_program.f k a0 a1 a2) (laminalaw17_program.f (k + 1) a0 a1 a2) := by
  intro a0 a1 a2 k
  have ih0 := laminalaw17_program.mono_l k
  unfold laminalaw17_program.f
  repeat' first
      | (with_reducible exact ih0 _ _ _ _ _ _)
      | (with_reducible exact LeO.refl _)
      | (with_reducible exact LeO.none _)
      | (with_reducible refine LeO.ite ?_ ?_)
      | (with_reducible refine LeO.bind ?_ (fun _ => ?_))
      | exact ih0 _ _ _ _ _ _
      | exact LeO.none _
      | refine LeO.ite ?_ ?_
      | refine LeO.bind ?_ (fun _ => ?_)
def laminalaw17_program.T5 : Bool × List (List Nat × List Nat) := (true, [([], []), ([0], [0]), ([], []), ([2], [2]), ([], []), ([4], [4]), ([], []), ([6], [6]), ([], []), ([], []), ([9], [9]), ([8, 10], [8, 10]), ([3, 5, 7, 11], [3, 5, 7, 11]), ([12], [12]), ([1, 13, 11], [1, 13]), ([0, 1, 2, 3, 4, 5, 6, 7, 8, 9, 10, 11, 12, 13, 14], []), ([15, 14, 14, 0, 1, 2, 3, 4, 5, 6, 7, 8, 9, 10, 11, 12, 13, 14], [14, 15])])
def laminalaw17_program.B5 : List Nat := [0, 1, 0, 4, 0, 16, 0, 64, 0, 0, 512, 1792, 4092, 8188, 16383, 32767, 65535]
theorem laminalaw17_program.tab5 : rtab .any (opsOf Try.f12 5) = laminalaw17_program.T5 := by kernel_rfl
theorem laminalaw17_program.bits5 : waitsOk laminalaw17_program.T5.2 laminalaw17_program.B5 = true := by kernel_rfl
set_option maxHeartbeats 8000000 in
set_option maxRecDepth 100000 in
theorem laminalaw17_program.calls (k : Nat) (a0_0 : Int) (a0_1 : Int) (A0_2 : Option Addr) (c0_2 : Nat) (l0_2 : List (S65)) (r1 : Int) (r2 : Int) (r3 : List (S61)) (w : World) (hr0_2 : Kd.C k65 w A0_2 l0_2.length l0_2) (hc0_2 : l0_2.length ≤ c0_2) (h : laminalaw17_program.f k a0_0 a0_1 l0_2 = some (r1, r2, r3)) :
    Calls Try.prog 12 #[.agg #[.int .i64 a0_0, .int .i64 a0_1, .slice A0_2 l0_2.length c0_2]] w fun e w' => ∃ v2_ : Value, e = .returned (.agg #[.int .i64 r1, .int .i64 r2, v2_]) ∧ Kd.S k61 61 w' w.heap.size (fun _ => True) v2_ r3 ∧ Below w.heap.size w w' := by
  have hu24 := Try.underlying24
  have hu35 := Try.underlying35
  have hu65 := Try.underlying65
  have hu61 := Try.underlying61
  have HR0_2 := Aside0.mk hr0_2
  have HC0_2 := Aside0.mk hc0_2
  clear hr0_2 hc0_2
  have HB := Aside0.mk (Below.refl w.heap.size w)
  have H : (laminalaw17_program.l0 k l0_2 (l0_2.length : Int) 0 a0_0 a0_1 ([] : List (S61))) = some (r1, r2, r3) := h
  clear h
  have H' := Aside0.mk H
  clear H
  go_enter Try.func12, Try.ntmps12
  go_wp2_with (first | ((with_reducible refine gate_dst (N := 1) rfl ?_); refine box_event ?hg (N := 1) ?hd (cs := #[.int .i64 a0_0, .int .i64 a0_1, .slice A0_2 l0_2.length c0_2]) (t := 24) ?hr ?_; (case hd => rfl); (case hg => rfl); (case hr => first | (go_simp; done) | (go_simp; rfl)); intro gb111 hg w2 hbox hb; have n0_ := Aside0.mk (below_step (by repeat (first | (with_reducible first | exact HB.out | apply below_alloc | apply pw_below_drewN | apply below_drew1) | exact HB.out)) hb); have n1_ := Aside0.mk (hbox); have n2_ := Aside0.mk ((by rw [hg]; exact (below_size (by repeat (first | (with_reducible first | exact HB.out | apply below_alloc | apply pw_below_drewN | apply below_drew1) | exact HB.out))) : w.heap.size ≤ gb111)); have n3_ := Aside0.mk ((by rw [hg]; exact (below_size (by repeat (first | (with_reducible first | exact HB.out | apply below_alloc | apply pw_below_drewN | apply below_drew1) | exact HB.out))) : w.heap.size ≤ gb111)); clear HB; have HB := n0_; have BK111 := n1_; have GW111 := n2_; have GE111 := n3_; clear n0_ n1_ n2_ n3_; clear hb hbox hg) | ((with_reducible refine gate_dst (N := 2) rfl ?_); refine box_event ?hg (N := 2) ?hd (cs := #[.int .i64 0, .int .i64 0, .slice none 0 0]) (t := 35) ?hr ?_; (case hd => rfl); (case hg => rfl); (case hr => first | (go_simp; done) | (go_simp; rfl)); intro gb112 hg w3 hbox hb; have n0_ := Aside0.mk (blk_below (g := gb111) (o := .cells #[.int .i64 a0_0, .int .i64 a0_1, .slice A0_2 l0_2.length c0_2] 24 (0, 0)) (by (with_reducible repeat (first | refine blk_drewN ?_ _ | refine blk_drew ?_ | refine blk_alloc ?_ _)); exact BK111.out) hb); have n1_ := Aside0.mk (below_step (by repeat (first | (with_reducible first | exact HB.out | apply below_alloc | apply pw_below_drewN | apply below_drew1 | refine below_set ?_ GE111.out) | exact HB.out)) hb); have n2_ := Aside0.mk (hbox); have n3_ := Aside0.mk ((by rw [hg]; exact (below_size (by repeat (first | (with_reducible first | exact HB.out | apply below_alloc | apply pw_below_drewN | apply below_drew1 | refine below_set ?_ GE111.out) | exact HB.out))) : w.heap.size ≤ gb112)); have n4_ := Aside0.mk ((by rw [hg]; exact (below_size (by repeat (first | (with_reducible first | exact HB.out | apply below_alloc | apply pw_below_drewN | apply below_drew1 | refine below_set ?_ GE111.out) | exact HB.out))) : w.heap.size ≤ gb112)); have n5_ := Aside0.mk ((by rw [hg]; exact Nat.ne_of_lt (blk_lt (g := gb111) (o := .cells #[.int .i64 a0_0, .int .i64 a0_1, .slice A0_2 l0_2.length c0_2] 24 (0, 0)) (by (with_reducible repeat (first | refine blk_drewN ?_ _ | refine blk_drew ?_ | refine blk_alloc ?_ _)); exact BK111.out)) : gb111 ≠ gb112)); have n6_ := Aside0.mk ((by rw [hg]; exact Nat.ne_of_gt (blk_lt (g := gb111) (o := .cells #[.int .i64 a0_0, .int .i64 a0_1, .slice A0_2 l0_2.length c0_2] 24 (0, 0)) (by (with_reducible repeat (first | refine blk_drewN ?_ _ | refine blk_drew ?_ | refine blk_alloc ?_ _)); exact BK111.out)) : gb112 ≠ gb111)); clear BK111; clear HB; have BK111 := n0_; have HB := n1_; have BK112 := n2_; have GW112 := n3_; have GE112 := n4_; have NB111_112 := n5_; have NB112_111 := n6_; clear n0_ n1_ n2_ n3_ n4_ n5_ n6_; clear hb hbox hg; have hnb4 := NB111_112.out; have hnc4 := NB112_111.out; have hcz5_0 : w3.cell? ⟨gb111, 0, none⟩ = some (.int .i64 a0_0) := (blk_cell BK111.out 0).trans rfl; have hcz5_1 : w3.cell? ⟨gb111, 1, none⟩ = some (.int .i64 a0_1) := (blk_cell BK111.out 1).trans rfl; have hcz5_2 : w3.cell? ⟨gb111, 2, none⟩ = some (.slice A0_2 l0_2.length c0_2) := (blk_cell BK111.out 2).trans rfl; have hfz5_0 := blk_frozen BK111.out 0; have hfz5_1 := blk_frozen BK111.out 1; have hfz5_2 := blk_frozen BK111.out 2) | ((with_reducible refine gate_dst (N := 3) rfl ?_); refine box_event ?hg (N := 3) ?hd (cs := #[.int .i64 0, .int .i64 0, .slice none 0 0]) (t := 35) ?hr ?_; (case hd => rfl); (case hg => rfl); (case hr => first | (go_simp; done) | (go_simp; rfl)); intro gb113 hg w6 hbox hb; have n0_ := Aside0.mk (blk_below (g := gb111) (o := .cells #[.int .i64 a0_0, .int .i64 a0_1, .slice A0_2 l0_2.length c0_2] 24 (0, 0)) (by (with_reducible repeat (first | refine blk_drewN ?_ _ | refine blk_drew ?_ | refine blk_alloc ?_ _)); exact BK111.out) hb); have n1_ := Aside0.mk (blk_below (g := gb112) (o := .cells #[.int .i64 0, .int .i64 0, .slice none 0 0] 35 (0, 0)) (by (with_reducible repeat (first | refine blk_drewN ?_ _ | refine blk_drew ?_ | refine blk_alloc ?_ _)); exact BK112.out) hb); have n2_ := Aside0.mk (below_step (by repeat (first | (with_reducible first | exact HB.out | apply below_alloc | apply pw_below_drewN | apply below_drew1 | refine below_set ?_ GE111.out | refine below_set ?_ GE112.out) | exact HB.out)) hb); have n3_ := Aside0.mk (hbox); have n4_ := Aside0.mk ((by rw [hg]; exact (below_size (by repeat (first | (with_reducible first | exact HB.out | apply below_alloc | apply pw_below_drewN | apply below_drew1 | refine below_set ?_ GE111.out | refine below_set ?_ GE112.out) | exact HB.out))) : w.heap.size ≤ gb113)); have n5_ := Aside0.mk ((by rw [hg]; exact (below_size (by repeat (first | (with_reducible first | exact HB.out | apply below_alloc | apply pw_below_drewN | apply below_drew1 | refine below_set ?_ GE111.out | refine below_set ?_ GE112.out) | exact HB.out))) : w.heap.size ≤ gb113)); have n6_ := Aside0.mk ((by rw [hg]; exact Nat.ne_of_lt (blk_lt (g := gb111) (o := .cells #[.int .i64 a0_0, .int .i64 a0_1, .slice A0_2 l0_2.length c0_2] 24 (0, 0)) (by (with_reducible repeat (first | refine blk_drewN ?_ _ | refine blk_drew ?_ | refine blk_alloc ?_ _)); exact BK111.out)) : gb111 ≠ gb113)); have n7_ := Aside0.mk ((by rw [hg]; exact Nat.ne_of_gt (blk_lt (g := gb111) (o := .cells #[.int .i64 a0_0, .int .i64 a0_1, .slice A0_2 l0_2.length c0_2] 24 (0, 0)) (by (with_reducible repeat (first | refine blk_drewN ?_ _ | refine blk_drew ?_ | refine blk_alloc ?_ _)); exact BK111.out)) : gb113 ≠ gb111)); have n8_ := Aside0.mk ((by rw [hg]; exact Nat.ne_of_lt (blk_lt (g := gb112) (o := .cells #[.int .i64 0, .int .i64 0, .slice none 0 0] 35 (0, 0)) (by (with_reducible repeat (first | refine blk_drewN ?_ _ | refine blk_drew ?_ | refine blk_alloc ?_ _)); exact BK112.out)) : gb112 ≠ gb113)); have n9_ := Aside0.mk ((by rw [hg]; exact Nat.ne_of_gt (blk_lt (g := gb112) (o := .cells #[.int .i64 0, .int .i64 0, .slice none 0 0] 35 (0, 0)) (by (with_reducible repeat (first | refine blk_drewN ?_ _ | refine blk_drew ?_ | refine blk_alloc ?_ _)); exact BK112.out)) : gb113 ≠ gb112)); clear BK111; clear BK112; clear HB; have BK111 := n0_; have BK112 := n1_; have HB := n2_; have BK113 := n3_; have GW113 := n4_; have GE113 := n5_; have NB111_113 := n6_; have NB113_111 := n7_; have NB112_113 := n8_; have NB113_112 := n9_; clear n0_ n1_ n2_ n3_ n4_ n5_ n6_ n7_ n8_ n9_; clear hb hbox hg; have hnb7 := NB113_111.out; have hnc7 := NB111_113.out; have hnb8 := NB113_112.out; have hnc8 := NB112_113.out; have hcz9_0 : w6.cell? ⟨gb113, 0, none⟩ = some (.int .i64 0) := (blk_cell BK113.out 0).trans rfl; have hcz9_1 : w6.cell? ⟨gb113, 1, none⟩ = some (.int .i64 0) := (blk_cell BK113.out 1).trans rfl; have hcz9_2 : w6.cell? ⟨gb113, 2, none⟩ = some (.slice none 0 0) := (blk_cell BK113.out 2).trans rfl; have hfz9_0 := blk_frozen BK113.out 0; have hfz9_1 := blk_frozen BK113.out 1; have hfz9_2 := blk_frozen BK113.out 2; have hcz10_0 : w6.cell? ⟨gb111, 0, none⟩ = some (.int .i64 a0_0) := (blk_cell BK111.out 0).trans rfl; have hcz10_1 : w6.cell? ⟨gb111, 1, none⟩ = some (.int .i64 a0_1) := (blk_cell BK111.out 1).trans rfl; have hcz10_2 : w6.cell? ⟨gb111, 2, none⟩ = some (.slice A0_2 l0_2.length c0_2) := (blk_cell BK111.out 2).trans rfl; have hfz10_0 := blk_frozen BK111.out 0; have hfz10_1 := blk_frozen BK111.out 1; have hfz10_2 := blk_frozen BK111.out 2))
  go_loopg [14] k (fun kq v14 w' => ∃ (x14_1 : Int) (x114002_1 : List (S61)) (u114002 : Value), v14 = .int .i64 x14_1 ∧ Aside0 (laminalaw17_program.l0 kq l0_2 (l0_2.length : Int) x14_1 a0_0 a0_1 x114002_1 = some (r1, r2, r3)) ∧ Aside0 (kq ≤ k) ∧ Aside0 (Kd.S k61 61 w' w.heap.size (fun _ => True) u114002 x114002_1) ∧ Aside0 (w'.heap[gb111]? = some (.cells #[.int .i64 a0_0, .int .i64 a0_1, (.slice A0_2 l0_2.length c0_2)] 24 (0, 0))) ∧ Aside0 (w'.heap[gb112]? = some (.cells #[.int .i64 0, .int .i64 0, (.slice none 0 0)] 35 (0, 0))) ∧ Aside0 (w'.heap[gb113]? = some (.cells #[.int .i64 a0_0, .int .i64 a0_1, u114002] 35 (0, 0))) ∧ Aside0 (Below w.heap.size w w'))
  case atStart => exact ⟨(0), (([] : List (S61))), (.slice none 0 0), (by first | rfl | (simp; done) | (simp [*]; done)), H', ⟨Nat.le_refl _⟩, ⟨by first | exact Kd.S_nil _ _ _ _ _ | exact Kd.N_nil _ _ _ _ _ | exact Kd.V_nil _ _ _ _ _ | exact Kd.Q_nil _ _ _ _ _ | exact Kd.R_nil _ _ _ _ _⟩, ⟨by (with_reducible repeat (first | refine blk_drewN ?_ _ | refine blk_drew ?_ | refine blk_alloc ?_ _)); refine blk_far ?_ NB111_113.out _; (with_reducible repeat (first | refine blk_drewN ?_ _ | refine blk_drew ?_ | refine blk_alloc ?_ _)); refine blk_far ?_ NB111_113.out _; (with_reducible repeat (first | refine blk_drewN ?_ _ | refine blk_drew ?_ | refine blk_alloc ?_ _)); refine blk_far ?_ NB111_113.out _; (with_reducible repeat (first | refine blk_drewN ?_ _ | refine blk_drew ?_ | refine blk_alloc ?_ _)); exact BK111.out⟩, ⟨by (with_reducible repeat (first | refine blk_drewN ?_ _ | refine blk_drew ?_ | refine blk_alloc ?_ _)); refine blk_far ?_ NB112_113.out _; (with_reducible repeat (first | refine blk_drewN ?_ _ | refine blk_drew ?_ | refine blk_alloc ?_ _)); refine blk_far ?_ NB112_113.out _; (with_reducible repeat (first | refine blk_drewN ?_ _ | refine blk_drew ?_ | refine blk_alloc ?_ _)); refine blk_far ?_ NB112_113.out _; (with_reducible repeat (first | refine blk_drewN ?_ _ | refine blk_drew ?_ | refine blk_alloc ?_ _)); exact BK112.out⟩, ⟨by (with_reducible repeat (first | refine blk_drewN ?_ _ | refine blk_drew ?_ | refine blk_alloc ?_ _)); refine blk_put (cs := #[.int .i64 a0_0, .int .i64 a0_1, .slice none 0 0]) ?_ 2 _ rfl; (with_reducible repeat (first | refine blk_drewN ?_ _ | refine blk_drew ?_ | refine blk_alloc ?_ _)); refine blk_put (cs := #[.int .i64 a0_0, .int .i64 0, .slice none 0 0]) ?_ 1 _ rfl; (with_reducible repeat (first | refine blk_drewN ?_ _ | refine blk_drew ?_ | refine blk_alloc ?_ _)); refine blk_put (cs := #[.int .i64 0, .int .i64 0, .slice none 0 0]) ?_ 0 _ rfl; (with_reducible repeat (first | refine blk_drewN ?_ _ | refine blk_drew ?_ | refine blk_alloc ?_ _)); exact BK113.out⟩, ⟨by repeat (first | (with_reducible first | exact HB.out | apply below_alloc | apply pw_below_drewN | apply below_drew1 | refine below_set ?_ GE111.out | refine below_set ?_ GE112.out | refine below_set ?_ GE113.out) | exact HB.out)⟩⟩
  case round =>
    clear H'
    try clear c1
    try clear p2
    try clear c4
    try clear c7
    try clear c8
    try clear hcz10_0
    try clear hcz10_1
    try clear hcz10_2
    try clear hcz5_0
    try clear hcz5_1
    try clear hcz5_2
    try clear hcz9_0
    try clear hcz9_1
    try clear hcz9_2
    try clear hfz10_0
    try clear hfz10_1
    try clear hfz10_2
    try clear hfz5_0
    try clear hfz5_1
    try clear hfz5_2
    try clear hfz9_0
    try clear hfz9_1
    try clear hfz9_2
    obtain ⟨x14_1, x114002_1, u114002, rfl, HA, HK1, HO_114002, BK111, BK112, BK113, HB⟩ := hrel
    cases gk with
    | zero => exact absurd HA.out (by simp [laminalaw17_program.l0])
    | succ k1 =>
      have H := HA.out
      clear HA
      simp only [laminalaw17_program.l0] at H
      by_cases c11 : x14_1 < (l0_2.length : Int)
      · rw [if_pos c11] at H
        have c11b0 : decide (x14_1 < (l0_2.length : Int)) = true := decide_eq_true c11
        clear c11
        by_cases c12 : 0 ≤ x14_1
        · rw [if_pos c12] at H
          have c12b0 : decide (0 ≤ x14_1) = true := decide_eq_true c12
          clear c12
          by_cases c13 : x14_1 < (l0_2.length : Int)
          · rw [if_pos c13] at H
            have c13b0 : decide (x14_1 < (l0_2.length : Int)) = true := decide_eq_true c13
            clear c13
            obtain ⟨y116, hy116⟩ : ∃ y_ : List Int, y_ = (([] : List Int)) := ⟨_, rfl⟩
            replace H : (if y116.length + ((rd_T65 l0_2 x14_1).f3).length < 140737488355328 then (if x114002_1.length < 2932031007402 then (laminalaw17_program.l0 k1 l0_2 (l0_2.length : Int) (wrap64 (x14_1 + 1)) a0_0 a0_1 (x114002_1 ++ [(⟨(rd_T65 l0_2 x14_1).f0, (rd_T65 l0_2 x14_1).f1, (rd_T65 l0_2 x14_1).f2, (y116 ++ ((rd_T65 l0_2 x14_1).f3))⟩ : S61)])) else (none)) else (none)) = some (r1, r2, r3) := by first | (rw [hy116]; with_reducible exact H) | (have H2_ := (Option.bind_some _ _).symm.trans H; rw [hy116]; with_reducible exact H2_) | (have H2_ := (Option.bind_some _ _).symm.trans H; with_reducible exact H2_) | with_reducible exact H | (rw [hy116]; exact H) | exact H
            have Ny116 := Aside0.mk hy116
            clear hy116
            by_cases c14 : y116.length + ((rd_T65 l0_2 x14_1).f3).length < 140737488355328
            · rw [if_pos c14] at H
              have LMc14 := Aside0.mk c14
              clear c14
              obtain ⟨y119, hy119⟩ : ∃ y_ : List Int, y_ = (y116 ++ ((rd_T65 l0_2 x14_1).f3)) := ⟨_, rfl⟩
              replace H : (if x114002_1.length < 2932031007402 then (laminalaw17_program.l0 k1 l0_2 (l0_2.length : Int) (wrap64 (x14_1 + 1)) a0_0 a0_1 (x114002_1 ++ [(⟨(rd_T65 l0_2 x14_1).f0, (rd_T65 l0_2 x14_1).f1, (rd_T65 l0_2 x14_1).f2, y119⟩ : S61)])) else (none)) = some (r1, r2, r3) := by first | (rw [hy119]; with_reducible exact H) | (have H2_ := (Option.bind_some _ _).symm.trans H; rw [hy119]; with_reducible exact H2_) | (have H2_ := (Option.bind_some _ _).symm.trans H; with_reducible exact H2_) | with_reducible exact H | (rw [hy119]; exact H) | exact H
              have Ny119 := Aside0.mk hy119
              clear hy119
              by_cases c15 : x114002_1.length < 2932031007402
              · rw [if_pos c15] at H
                have LMc15 := Aside0.mk c15
                clear c15
                obtain ⟨y122, hy122⟩ : ∃ y_ : List (S61), y_ = (x114002_1 ++ [(⟨(rd_T65 l0_2 x14_1).f0, (rd_T65 l0_2 x14_1).f1, (rd_T65 l0_2 x14_1).f2, y119⟩ : S61)]) := ⟨_, rfl⟩
                replace H : (laminalaw17_program.l0 k1 l0_2 (l0_2.length : Int) (wrap64 (x14_1 + 1)) a0_0 a0_1 y122) = some (r1, r2, r3) := by first | (rw [hy122]; with_reducible exact H) | (have H2_ := (Option.bind_some _ _).symm.trans H; rw [hy122]; with_reducible exact H2_) | (have H2_ := (Option.bind_some _ _).symm.trans H; with_reducible exact H2_) | with_reducible exact H | (rw [hy122]; exact H) | exact H
                have Ny122 := Aside0.mk hy122
                clear hy122
                have H' := Aside0.mk H
                clear H
                have p114 : 0 ≤ (x14_1 : Int) := of_decide_eq_true (by first | (with_reducible assumption) | assumption)
                have q114 : x14_1 < (l0_2.length : Int) := of_decide_eq_true (by first | (with_reducible assumption) | assumption)
                obtain ⟨ad114, A114_3, c114_3, e114, hx114_0, hx114_1, hx114_2, hx114_3, hl114_3, hi114_3⟩ := at_T65 HR0_2.out x14_1 p114 q114
                cases e114
                replace hx114_0 := (HB.out.cell (World.block_lt_of_cell? w _ hx114_0)).trans hx114_0
                replace hx114_1 := (HB.out.cell (World.block_lt_of_cell? w _ hx114_1)).trans hx114_1
                replace hx114_2 := (HB.out.cell (World.block_lt_of_cell? w _ hx114_2)).trans hx114_2
                replace hx114_3 := (HB.out.cell (World.block_lt_of_cell? w _ hx114_3)).trans hx114_3
                have HR114_3 := Aside0.mk hi114_3
                have HC114_3 := Aside0.mk hl114_3
                clear hi114_3 hl114_3
                replace p114 := eq_true p114
                replace q114 := eq_true q114
                try go_wp2_with (first | ((with_reducible refine gate_dst (N := 5) rfl ?_); refine box_event ?hg (N := 5) ?hd (cs := #[.int .i64 0, .int .i64 0, .bool false, .slice none 0 0]) (t := 65) ?hr ?_; (case hd => rfl); (case hg => rfl); (case hr => first | (go_simp; done) | (go_simp; rfl)); intro gb115 hg w16 hbox hb; have n0_ := Aside0.mk (Kd.S_below (by (with_reducible repeat (first | apply Kd.S_alloc | apply Kd.S_drewN | apply Kd.S_drew)); exact HO_114002.out) hb); have n1_ := Aside0.mk (blk_below (g := gb111) (o := .cells #[.int .i64 a0_0, .int .i64 a0_1, .slice (some ad114) l0_2.length c0_2] 24 (0, 0)) (by (with_reducible repeat (first | refine blk_drewN ?_ _ | refine blk_drew ?_ | refine blk_alloc ?_ _)); exact BK111.out) hb); have n2_ := Aside0.mk (blk_below (g := gb112) (o := .cells #[.int .i64 0, .int .i64 0, .slice none 0 0] 35 (0, 0)) (by (with_reducible repeat (first | refine blk_drewN ?_ _ | refine blk_drew ?_ | refine blk_alloc ?_ _)); exact BK112.out) hb); have n3_ := Aside0.mk (blk_below (g := gb113) (o := .cells #[.int .i64 a0_0, .int .i64 a0_1, u114002] 35 (0, 0)) (by (with_reducible repeat (first | refine blk_drewN ?_ _ | refine blk_drew ?_ | refine blk_alloc ?_ _)); exact BK113.out) hb); have n4_ := Aside0.mk (below_step (by repeat (first | (with_reducible first | exact HB.out | apply below_alloc | apply pw_below_drewN | apply below_drew1 | refine below_set ?_ GE111.out | refine below_set ?_ GE112.out | refine below_set ?_ GE113.out) | exact HB.out)) hb); have n5_ := Aside0.mk (hbox); have n6_ := Aside0.mk ((by rw [hg]; exact (below_size (by repeat (first | (with_reducible first | exact HB.out | apply below_alloc | apply pw_below_drewN | apply below_drew1 | refine below_set ?_ GE111.out | refine below_set ?_ GE112.out | refine below_set ?_ GE113.out) | exact HB.out))) : w.heap.size ≤ gb115)); have n7_ := Aside0.mk ((by rw [hg]; exact (below_size (by repeat (first | (with_reducible first | exact HB.out | apply below_alloc | apply pw_below_drewN | apply below_drew1 | refine below_set ?_ GE111.out | refine below_set ?_ GE112.out | refine below_set ?_ GE113.out) | exact HB.out))) : w.heap.size ≤ gb115)); have n8_ := Aside0.mk ((by rw [hg]; exact Nat.ne_of_lt (blk_lt (g := gb111) (o := .cells #[.int .i64 a0_0, .int .i64 a0_1, .slice (some ad114) l0_2.length c0_2] 24 (0, 0)) (by (with_reducible repeat (first | refine blk_drewN ?_ _ | refine blk_drew ?_ | refine blk_alloc ?_ _)); exact BK111.out)) : gb111 ≠ gb115)); have n9_ := Aside0.mk ((by rw [hg]; exact Nat.ne_of_gt (blk_lt (g := gb111) (o := .cells #[.int .i64 a0_0, .int .i64 a0_1, .slice (some ad114) l0_2.length c0_2] 24 (0, 0)) (by (with_reducible repeat (first | refine blk_drewN ?_ _ | refine blk_drew ?_ | refine blk_alloc ?_ _)); exact BK111.out)) : gb115 ≠ gb111)); have n10_ := Aside0.mk ((by rw [hg]; exact Nat.ne_of_lt (blk_lt (g := gb112) (o := .cells #[.int .i64 0, .int .i64 0, .slice none 0 0] 35 (0, 0)) (by (with_reducible repeat (first | refine blk_drewN ?_ _ | refine blk_drew ?_ | refine blk_alloc ?_ _)); exact BK112.out)) : gb112 ≠ gb115)); have n11_ := Aside0.mk ((by rw [hg]; exact Nat.ne_of_gt (blk_lt (g := gb112) (o := .cells #[.int .i64 0, .int .i64 0, .slice none 0 0] 35 (0, 0)) (by (with_reducible repeat (first | refine blk_drewN ?_ _ | refine blk_drew ?_ | refine blk_alloc ?_ _)); exact BK112.out)) : gb115 ≠ gb112)); have n12_ := Aside0.mk ((by rw [hg]; exact Nat.ne_of_lt (blk_lt (g := gb113) (o := .cells #[.int .i64 a0_0, .int .i64 a0_1, u114002] 35 (0, 0)) (by (with_reducible repeat (first | refine blk_drewN ?_ _ | refine blk_drew ?_ | refine blk_alloc ?_ _)); exact BK113.out)) : gb113 ≠ gb115)); have n13_ := Aside0.mk ((by rw [hg]; exact Nat.ne_of_gt (blk_lt (g := gb113) (o := .cells #[.int .i64 a0_0, .int .i64 a0_1, u114002] 35 (0, 0)) (by (with_reducible repeat (first | refine blk_drewN ?_ _ | refine blk_drew ?_ | refine blk_alloc ?_ _)); exact BK113.out)) : gb115 ≠ gb113)); clear HO_114002; clear BK111; clear BK112; clear BK113; clear HB; have HO_114002 := n0_; have BK111 := n1_; have BK112 := n2_; have BK113 := n3_; have HB := n4_; have BK115 := n5_; have GW115 := n6_; have GE115 := n7_; have NB111_115 := n8_; have NB115_111 := n9_; have NB112_115 := n10_; have NB115_112 := n11_; have NB113_115 := n12_; have NB115_113 := n13_; clear n0_ n1_ n2_ n3_ n4_ n5_ n6_ n7_ n8_ n9_ n10_ n11_ n12_ n13_; clear hb hbox hg; have hnb17 := NB115_111.out; have hnc17 := NB111_115.out; have hnb18 := NB115_112.out; have hnc18 := NB112_115.out; have hnb19 := NB115_113.out; have hnc19 := NB113_115.out; have hcz20_0 : w16.cell? ⟨gb115, 0, none⟩ = some (.int .i64 0) := (blk_cell BK115.out 0).trans rfl; have hcz20_1 : w16.cell? ⟨gb115, 1, none⟩ = some (.int .i64 0) := (blk_cell BK115.out 1).trans rfl; have hcz20_2 : w16.cell? ⟨gb115, 2, none⟩ = some (.bool false) := (blk_cell BK115.out 2).trans rfl; have hcz20_3 : w16.cell? ⟨gb115, 3, none⟩ = some (.slice none 0 0) := (blk_cell BK115.out 3).trans rfl; have hfz20_0 := blk_frozen BK115.out 0; have hfz20_1 := blk_frozen BK115.out 1; have hfz20_2 := blk_frozen BK115.out 2; have hfz20_3 := blk_frozen BK115.out 3))
                have n0_ : Aside0 (Kd.S k61 61 ((((w16.setCell ⟨gb115, 0, none⟩ (.int .i64 ((rd_T65 l0_2 x14_1).f0))).setCell ⟨gb115, 1, none⟩ (.int .i64 ((rd_T65 l0_2 x14_1).f1))).setCell ⟨gb115, 2, none⟩ (.bool ((rd_T65 l0_2 x14_1).f2))).setCell ⟨gb115, 3, none⟩ (.slice A114_3 ((rd_T65 l0_2 x14_1).f3).length c114_3)) w.heap.size (fun _ => True) u114002 x114002_1) := ⟨by (with_reducible repeat (first | apply Kd.S_alloc | apply Kd.S_drewN | apply Kd.S_drew)); exact Kd.S_mono (Kd.S_far (p := ⟨gb115, 3, none⟩) (Kd.S_far (p := ⟨gb115, 2, none⟩) (Kd.S_far (p := ⟨gb115, 1, none⟩) (Kd.S_far (p := ⟨gb115, 0, none⟩) (Kd.S_types HO_114002.out BK115.out (by decide)) (fun _ hk => hk.2) (.int .i64 ((rd_T65 l0_2 x14_1).f0))) (fun _ hk => hk.2) (.int .i64 ((rd_T65 l0_2 x14_1).f1))) (fun _ hk => hk.2) (.bool ((rd_T65 l0_2 x14_1).f2))) (fun _ hk => hk.2) (.slice A114_3 ((rd_T65 l0_2 x14_1).f3).length c114_3)) (fun _ hk => trivial)⟩
                have n1_ : Aside0 (((((w16.setCell ⟨gb115, 0, none⟩ (.int .i64 ((rd_T65 l0_2 x14_1).f0))).setCell ⟨gb115, 1, none⟩ (.int .i64 ((rd_T65 l0_2 x14_1).f1))).setCell ⟨gb115, 2, none⟩ (.bool ((rd_T65 l0_2 x14_1).f2))).setCell ⟨gb115, 3, none⟩ (.slice A114_3 ((rd_T65 l0_2 x14_1).f3).length c114_3)).heap[gb111]? = some (.cells #[.int .i64 a0_0, .int .i64 a0_1, .slice (some ad114) l0_2.length c0_2] 24 (0, 0))) := ⟨by (with_reducible repeat (first | refine blk_drewN ?_ _ | refine blk_drew ?_ | refine blk_alloc ?_ _)); refine blk_far ?_ NB111_115.out _; (with_reducible repeat (first | refine blk_drewN ?_ _ | refine blk_drew ?_ | refine blk_alloc ?_ _)); refine blk_far ?_ NB111_115.out _; (with_reducible repeat (first | refine blk_drewN ?_ _ | refine blk_drew ?_ | refine blk_alloc ?_ _)); refine blk_far ?_ NB111_115.out _; (with_reducible repeat (first | refine blk_drewN ?_ _ | refine blk_drew ?_ | refine blk_alloc ?_ _)); refine blk_far ?_ NB111_115.out _; (with_reducible repeat (first | refine blk_drewN ?_ _ | refine blk_drew ?_ | refine blk_alloc ?_ _)); exact BK111.out⟩
                have n2_ : Aside0 (((((w16.setCell ⟨gb115, 0, none⟩ (.int .i64 ((rd_T65 l0_2 x14_1).f0))).setCell ⟨gb115, 1, none⟩ (.int .i64 ((rd_T65 l0_2 x14_1).f1))).setCell ⟨gb115, 2, none⟩ (.bool ((rd_T65 l0_2 x14_1).f2))).setCell ⟨gb115, 3, none⟩ (.slice A114_3 ((rd_T65 l0_2 x14_1).f3).length c114_3)).heap[gb112]? = some (.cells #[.int .i64 0, .int .i64 0, .slice none 0 0] 35 (0, 0))) := ⟨by (with_reducible repeat (first | refine blk_drewN ?_ _ | refine blk_drew ?_ | refine blk_alloc ?_ _)); refine blk_far ?_ NB112_115.out _; (with_reducible repeat (first | refine blk_drewN ?_ _ | refine blk_drew ?_ | refine blk_alloc ?_ _)); refine blk_far ?_ NB112_115.out _; (with_reducible repeat (first | refine blk_drewN ?_ _ | refine blk_drew ?_ | refine blk_alloc ?_ _)); refine blk_far ?_ NB112_115.out _; (with_reducible repeat (first | refine blk_drewN ?_ _ | refine blk_drew ?_ | refine blk_alloc ?_ _)); refine blk_far ?_ NB112_115.out _; (with_reducible repeat (first | refine blk_drewN ?_ _ | refine blk_drew ?_ | refine blk_alloc ?_ _)); exact BK112.out⟩
                have n3_ : Aside0 (((((w16.setCell ⟨gb115, 0, none⟩ (.int .i64 ((rd_T65 l0_2 x14_1).f0))).setCell ⟨gb115, 1, none⟩ (.int .i64 ((rd_T65 l0_2 x14_1).f1))).setCell ⟨gb115, 2, none⟩ (.bool ((rd_T65 l0_2 x14_1).f2))).setCell ⟨gb115, 3, none⟩ (.slice A114_3 ((rd_T65 l0_2 x14_1).f3).length c114_3)).heap[gb113]? = some (.cells #[.int .i64 a0_0, .int .i64 a0_1, u114002] 35 (0, 0))) := ⟨by (with_reducible repeat (first | refine blk_drewN ?_ _ | refine blk_drew ?_ | refine blk_alloc ?_ _)); refine blk_far ?_ NB113_115.out _; (with_reducible repeat (first | refine blk_drewN ?_ _ | refine blk_drew ?_ | refine blk_alloc ?_ _)); refine blk_far ?_ NB113_115.out _; (with_reducible repeat (first | refine blk_drewN ?_ _ | refine blk_drew ?_ | refine blk_alloc ?_ _)); refine blk_far ?_ NB113_115.out _; (with_reducible repeat (first | refine blk_drewN ?_ _ | refine blk_drew ?_ | refine blk_alloc ?_ _)); refine blk_far ?_ NB113_115.out _; (with_reducible repeat (first | refine blk_drewN ?_ _ | refine blk_drew ?_ | refine blk_alloc ?_ _)); exact BK113.out⟩
                have n4_ : Aside0 (((((w16.setCell ⟨gb115, 0, none⟩ (.int .i64 ((rd_T65 l0_2 x14_1).f0))).setCell ⟨gb115, 1, none⟩ (.int .i64 ((rd_T65 l0_2 x14_1).f1))).setCell ⟨gb115, 2, none⟩ (.bool ((rd_T65 l0_2 x14_1).f2))).setCell ⟨gb115, 3, none⟩ (.slice A114_3 ((rd_T65 l0_2 x14_1).f3).length c114_3)).heap[gb115]? = some (.cells #[.int .i64 ((rd_T65 l0_2 x14_1).f0), .int .i64 ((rd_T65 l0_2 x14_1).f1), .bool ((rd_T65 l0_2 x14_1).f2), .slice A114_3 ((rd_T65 l0_2 x14_1).f3).length c114_3] 65 (0, 0))) := ⟨by (with_reducible repeat (first | refine blk_drewN ?_ _ | refine blk_drew ?_ | refine blk_alloc ?_ _)); refine blk_put (cs := #[.int .i64 ((rd_T65 l0_2 x14_1).f0), .int .i64 ((rd_T65 l0_2 x14_1).f1), .bool ((rd_T65 l0_2 x14_1).f2), .slice none 0 0]) ?_ 3 _ rfl; (with_reducible repeat (first | refine blk_drewN ?_ _ | refine blk_drew ?_ | refine blk_alloc ?_ _)); refine blk_put (cs := #[.int .i64 ((rd_T65 l0_2 x14_1).f0), .int .i64 ((rd_T65 l0_2 x14_1).f1), .bool false, .slice none 0 0]) ?_ 2 _ rfl; (with_reducible repeat (first | refine blk_drewN ?_ _ | refine blk_drew ?_ | refine blk_alloc ?_ _)); refine blk_put (cs := #[.int .i64 ((rd_T65 l0_2 x14_1).f0), .int .i64 0, .bool false, .slice none 0 0]) ?_ 1 _ rfl; (with_reducible repeat (first | refine blk_drewN ?_ _ | refine blk_drew ?_ | refine blk_alloc ?_ _)); refine blk_put (cs := #[.int .i64 0, .int .i64 0, .bool false, .slice none 0 0]) ?_ 0 _ rfl; (with_reducible repeat (first | refine blk_drewN ?_ _ | refine blk_drew ?_ | refine blk_alloc ?_ _)); exact BK115.out⟩
                have n5_ : Aside0 (Below w.heap.size w ((((w16.setCell ⟨gb115, 0, none⟩ (.int .i64 ((rd_T65 l0_2 x14_1).f0))).setCell ⟨gb115, 1, none⟩ (.int .i64 ((rd_T65 l0_2 x14_1).f1))).setCell ⟨gb115, 2, none⟩ (.bool ((rd_T65 l0_2 x14_1).f2))).setCell ⟨gb115, 3, none⟩ (.slice A114_3 ((rd_T65 l0_2 x14_1).f3).length c114_3))) := ⟨by repeat (first | (with_reducible first | exact HB.out | apply below_alloc | apply pw_below_drewN | apply below_drew1 | refine below_set ?_ GE111.out | refine below_set ?_ GE112.out | refine below_set ?_ GE113.out | refine below_set ?_ GE115.out) | exact HB.out)⟩
                (try clear HO_114002)
                (try clear BK111)
                (try clear BK112)
                (try clear BK113)
                (try clear BK115)
                (try clear HB)
                generalize ((((w16.setCell ⟨gb115, 0, none⟩ (.int .i64 ((rd_T65 l0_2 x14_1).f0))).setCell ⟨gb115, 1, none⟩ (.int .i64 ((rd_T65 l0_2 x14_1).f1))).setCell ⟨gb115, 2, none⟩ (.bool ((rd_T65 l0_2 x14_1).f2))).setCell ⟨gb115, 3, none⟩ (.slice A114_3 ((rd_T65 l0_2 x14_1).f3).length c114_3)) = w21 at n0_ n1_ n2_ n3_ n4_ n5_ ⊢
                have HO_114002 := n0_
                have BK111 := n1_
                have BK112 := n2_
                have BK113 := n3_
                have BK115 := n4_
                have HB := n5_
                clear n0_ n1_ n2_ n3_ n4_ n5_
                have n0_ := Aside0.mk (Kd.S_drew HO_114002.out)
                have n1_ := Aside0.mk (blk_drew BK111.out)
                have n2_ := Aside0.mk (blk_drew BK112.out)
                have n3_ := Aside0.mk (blk_drew BK113.out)
                have n4_ := Aside0.mk (blk_drew BK115.out)
                have n5_ := Aside0.mk (below_drew1 HB.out)
                clear HO_114002
                clear BK111
                clear BK112
                clear BK113
                clear BK115
                clear HB
                have HO_114002 := n0_
                have BK111 := n1_
                have BK112 := n2_
                have BK113 := n3_
                have BK115 := n4_
                have HB := n5_
                clear n0_ n1_ n2_ n3_ n4_ n5_
                refine start_ (n := 17) (S := fun w' => w'.cell? ⟨gb113, 0, none⟩ = some (.int .i64 a0_0) ∧ w'.cell? ⟨gb113, 1, none⟩ = some (.int .i64 a0_1) ∧ w'.cell? ⟨gb113, 2, none⟩ = some (u114002) ∧ w'.cell? ⟨gb115, 0, none⟩ = some (.int .i64 ((rd_T65 l0_2 x14_1).f0)) ∧ w'.cell? ⟨gb115, 1, none⟩ = some (.int .i64 ((rd_T65 l0_2 x14_1).f1)) ∧ w'.cell? ⟨gb115, 2, none⟩ = some (.bool ((rd_T65 l0_2 x14_1).f2)) ∧ w'.cell? ⟨gb115, 3, none⟩ = some (.slice A114_3 ((rd_T65 l0_2 x14_1).f3).length c114_3)) (ds := [16]) #[false, false, false, false, false, false, false, false, false, false, false, false, false, false, false, false, false] (by kernel_rfl) rfl rfl ⟨(blk_cell BK113.out 0).trans rfl, (blk_cell BK113.out 1).trans rfl, (blk_cell BK113.out 2).trans rfl, (blk_cell BK115.out 0).trans rfl, (blk_cell BK115.out 1).trans rfl, (blk_cell BK115.out 2).trans rfl, (blk_cell BK115.out 3).trans rfl⟩ (fun hHeld => ?_); refine with_tabW laminalaw17_program.tab5 laminalaw17_program.bits5 (fun HT_ HW_ => ?_)
                generalize w21.drew = w22 at HO_114002 BK111 BK112 BK113 BK115 HB hHeld ⊢
                refine pure_ (i := 0) (N := some 18) (v := ?_) (a' := ?_) #[true, false, false, false, false, false, false, false, false, false, false, false, false, false, false, false, false] rfl rfl (any_of HT_.out (by kernel_rfl)) (fun _ _ _ h => h) (Or.inl ⟨by rfl, ?_⟩) ?_ ?_
                rotate_left
                · intro w'
                  go_simp
                  with_reducible rfl
                rotate_left
                · simp only [Act.put, List.setIfInBounds_toArray, List.set_cons_zero, List.set_cons_succ, i64_w, i32_w]
                  rfl
                refine pure_ (i := 2) (N := some 20) (v := ?_) (a' := ?_) #[true, false, true, false, false, false, false, false, false, false, false, false, false, false, false, false, false] rfl rfl (any_of HT_.out (by kernel_rfl)) (fun _ _ _ h => h) (Or.inl ⟨by rfl, ?_⟩) ?_ ?_
                rotate_left
                · intro w'
                  go_simp
                  with_reducible rfl
                rotate_left
                · simp only [Act.put, List.setIfInBounds_toArray, List.set_cons_zero, List.set_cons_succ, i64_w, i32_w]
                  rfl
                refine pure_ (i := 4) (N := some 22) (v := ?_) (a' := ?_) #[true, false, true, false, true, false, false, false, false, false, false, false, false, false, false, false, false] rfl rfl (any_of HT_.out (by kernel_rfl)) (fun _ _ _ h => h) (Or.inl ⟨by rfl, ?_⟩) ?_ ?_
                rotate_left
                · intro w'
                  go_simp
                  with_reducible rfl
                rotate_left
                · simp only [Act.put, List.setIfInBounds_toArray, List.set_cons_zero, List.set_cons_succ, i64_w, i32_w]
                  rfl
                refine pure_ (i := 6) (N := some 24) (v := ?_) (a' := ?_) #[true, false, true, false, true, false, true, false, false, false, false, false, false, false, false, false, false] rfl rfl (any_of HT_.out (by kernel_rfl)) (fun _ _ _ h => h) (Or.inl ⟨by rfl, ?_⟩) ?_ ?_
                rotate_left
                · intro w'
                  go_simp
                  with_reducible rfl
                rotate_left
                · simp only [Act.put, List.setIfInBounds_toArray, List.set_cons_zero, List.set_cons_succ, i64_w, i32_w]
                  rfl
                refine pure_ (i := 9) (N := some 27) (v := ?_) (a' := ?_) #[true, false, true, false, true, false, true, false, false, true, false, false, false, false, false, false, false] rfl rfl (any_of HT_.out (by kernel_rfl)) (fun _ _ _ h => h) (Or.inl ⟨by rfl, ?_⟩) ?_ ?_
                rotate_left
                · intro w'
                  go_simp
                  with_reducible rfl
                rotate_left
                · simp only [Act.put, List.setIfInBounds_toArray, List.set_cons_zero, List.set_cons_succ, i64_w, i32_w]
                  rfl
                refine take_ (i := 1) (N := some 19) (v := ?_) (a' := ?_) #[true, true, true, false, true, false, true, false, false, true, false, false, false, false, false, false, false] rfl rfl (take_ofW HT_.out HW_.out (by kernel_rfl)) (fun _ _ _ h => h) (Or.inl ⟨by rfl, ?_⟩) hHeld ?_ ?_
                rotate_left
                · rintro w' ⟨s0, s1, s2, s3, s4, s5, s6⟩
                  go_simp
                  with_reducible rfl
                rotate_left
                · simp only [Act.put, List.setIfInBounds_toArray, List.set_cons_zero, List.set_cons_succ, i64_w, i32_w]
                  rfl
                refine take_ (i := 3) (N := some 21) (v := ?_) (a' := ?_) #[true, true, true, true, true, false, true, false, false, true, false, false, false, false, false, false, false] rfl rfl (take_ofW HT_.out HW_.out (by kernel_rfl)) (fun _ _ _ h => h) (Or.inl ⟨by rfl, ?_⟩) hHeld ?_ ?_
                rotate_left
                · rintro w' ⟨s0, s1, s2, s3, s4, s5, s6⟩
                  go_simp
                  with_reducible rfl
                rotate_left
                · simp only [Act.put, List.setIfInBounds_toArray, List.set_cons_zero, List.set_cons_succ, i64_w, i32_w]
                  rfl
                refine take_ (i := 5) (N := some 23) (v := ?_) (a' := ?_) #[true, true, true, true, true, true, true, false, false, true, false, false, false, false, false, false, false] rfl rfl (take_ofW HT_.out HW_.out (by kernel_rfl)) (fun _ _ _ h => h) (Or.inl ⟨by rfl, ?_⟩) hHeld ?_ ?_
                rotate_left
                · rintro w' ⟨s0, s1, s2, s3, s4, s5, s6⟩
                  go_simp
                  with_reducible rfl
                rotate_left
                · simp only [Act.put, List.setIfInBounds_toArray, List.set_cons_zero, List.set_cons_succ, i64_w, i32_w]
                  rfl
                refine take_ (i := 7) (N := some 25) (v := ?_) (a' := ?_) #[true, true, true, true, true, true, true, true, false, true, false, false, false, false, false, false, false] rfl rfl (take_ofW HT_.out HW_.out (by kernel_rfl)) (fun _ _ _ h => h) (Or.inl ⟨by rfl, ?_⟩) hHeld ?_ ?_
                rotate_left
                · rintro w' ⟨s0, s1, s2, s3, s4, s5, s6⟩
                  go_simp
                  with_reducible rfl
                rotate_left
                · simp only [Act.put, List.setIfInBounds_toArray, List.set_cons_zero, List.set_cons_succ, i64_w, i32_w]
                  rfl
                refine take_ (i := 10) (N := some 28) (v := ?_) (a' := ?_) #[true, true, true, true, true, true, true, true, false, true, true, false, false, false, false, false, false] rfl rfl (take_ofW HT_.out HW_.out (by kernel_rfl)) (fun _ _ _ h => h) (Or.inl ⟨by rfl, ?_⟩) hHeld ?_ ?_
                rotate_left
                · rintro w' ⟨s0, s1, s2, s3, s4, s5, s6⟩
                  go_simp
                  with_reducible rfl
                rotate_left
                · simp only [Act.put, List.setIfInBounds_toArray, List.set_cons_zero, List.set_cons_succ, i64_w, i32_w]
                  rfl
                refine one_ (i := 8) (N := some 26) #[true, true, true, true, true, true, true, true, true, true, true, false, false, false, false, false, false] rfl rfl (one_of HT_.out (by kernel_rfl)) (by decide) (fun K hK => ?_)
                refine Kd.R_lit_step (Kd.int .u8) _ 5 ?hg (N := 26) ?hd (xs := ([] : List Int)) (inner := []) (ok := fun _ => True) (okp := fun _ => True) ?hr ?hp (fun _ hk => hk) trivial (Below.refl _ _) (Nat.le_refl _) (by simp) ?_; (case hd => rfl); (case hg => rfl); (case hr => first | (go_simp; done) | (go_simp; rfl)); (case hp => exact (Reps.none _ _))
                intro v117 w23 ho24 hb hg_ hnew_
                clear hg_ hnew_
                (first | rw [← Ny116.out] at ho24 | (simp only [Int.reduceToNat] at ho24; rw [← Ny116.out] at ho24))
                have n0_ := Aside0.mk (Kd.S_elder' (by (with_reducible repeat (first | apply Kd.S_alloc | apply Kd.S_drewN | apply Kd.S_drew)); exact HO_114002.out) (Kd.R_base ho24) hb)
                have n1_ := Aside0.mk (Kd.R_lower ho24 (below_size (by repeat (first | (with_reducible first | exact HB.out | apply below_alloc | apply pw_below_drewN | apply below_drew1 | refine below_set ?_ GE111.out | refine below_set ?_ GE112.out | refine below_set ?_ GE113.out | refine below_set ?_ GE115.out) | exact HB.out))))
                have n2_ := Aside0.mk (blk_below (g := gb111) (o := .cells #[.int .i64 a0_0, .int .i64 a0_1, .slice (some ad114) l0_2.length c0_2] 24 (0, 0)) (by (with_reducible repeat (first | refine blk_drewN ?_ _ | refine blk_drew ?_ | refine blk_alloc ?_ _)); exact BK111.out) hb)
                have n3_ := Aside0.mk (blk_below (g := gb112) (o := .cells #[.int .i64 0, .int .i64 0, .slice none 0 0] 35 (0, 0)) (by (with_reducible repeat (first | refine blk_drewN ?_ _ | refine blk_drew ?_ | refine blk_alloc ?_ _)); exact BK112.out) hb)
                have n4_ := Aside0.mk (blk_below (g := gb113) (o := .cells #[.int .i64 a0_0, .int .i64 a0_1, u114002] 35 (0, 0)) (by (with_reducible repeat (first | refine blk_drewN ?_ _ | refine blk_drew ?_ | refine blk_alloc ?_ _)); exact BK113.out) hb)
                have n5_ := Aside0.mk (blk_below (g := gb115) (o := .cells #[.int .i64 ((rd_T65 l0_2 x14_1).f0), .int .i64 ((rd_T65 l0_2 x14_1).f1), .bool ((rd_T65 l0_2 x14_1).f2), .slice A114_3 ((rd_T65 l0_2 x14_1).f3).length c114_3] 65 (0, 0)) (by (with_reducible repeat (first | refine blk_drewN ?_ _ | refine blk_drew ?_ | refine blk_alloc ?_ _)); exact BK115.out) hb)
                have n6_ := Aside0.mk (below_step (by repeat (first | (with_reducible first | exact HB.out | apply below_alloc | apply pw_below_drewN | apply below_drew1 | refine below_set ?_ GE111.out | refine below_set ?_ GE112.out | refine below_set ?_ GE113.out | refine below_set ?_ GE115.out) | exact HB.out)) hb)
                clear HO_114002
                clear BK111
                clear BK112
                clear BK113
                clear BK115
                clear HB
                have HO_114002 := n0_
                have HO118 := n1_
                have BK111 := n2_
                have BK112 := n3_
                have BK113 := n4_
                have BK115 := n5_
                have HB := n6_
                clear n0_ n1_ n2_ n3_ n4_ n5_ n6_
                clear hb ho24
                refine hK.out _ _ ⟨(blk_cell BK113.out 0).trans rfl, (blk_cell BK113.out 1).trans rfl, (blk_cell BK113.out 2).trans rfl, (blk_cell BK115.out 0).trans rfl, (blk_cell BK115.out 1).trans rfl, (blk_cell BK115.out 2).trans rfl, (blk_cell BK115.out 3).trans rfl⟩ (fun hHeld => ?_)
                clear hK K
                refine norm_ (a' := ?_) ?_ ?_
                rotate_left
                · show Act.put _ (some 26) _ = _
                  simp only [Act.put, List.setIfInBounds_toArray, List.set_cons_zero, List.set_cons_succ, i64_w, i32_w]
                  rfl
                refine one_ (i := 11) (N := some 29) #[true, true, true, true, true, true, true, true, true, true, true, true, false, false, false, false, false] rfl rfl (one_of HT_.out (by kernel_rfl)) (by decide) (fun K hK => ?_)
                refine Kd.R_append_rows_step (Kd.int .u8) (w0 := w) w.heap.size (by rfl) (.tmp 26) (.tmp 28) 25 5 (.int .u8 0) 1 rfl Try.underlying25 info5 rfl (by decide) (by omega) v117 y116 ((rd_T65 l0_2 x14_1).f3) _ _ _ (fun _ => True) (fun _ => False) rfl rfl ?aO ?aR (fun _ _ h => h) (fun _ h => h.elim) ?aF ?aB ?aS ?aL ?_
                (case aR => repeat (first | exact (Kd.C_below HR114_3.out HB.out) | (with_reducible refine Kd.C_alloc ?_ _) | (with_reducible refine Kd.C_drewN ?_ _) | (with_reducible refine Kd.C_drew ?_)))
                (case aB => exact (by repeat (first | (with_reducible first | exact HB.out | apply below_alloc | apply pw_below_drewN | apply below_drew1 | refine below_set ?_ GE111.out | refine below_set ?_ GE112.out | refine below_set ?_ GE113.out | refine below_set ?_ GE115.out) | exact HB.out)))
                (case aF => exact (fun _ _ => trivial))
                (case aO => exact (by (with_reducible repeat (first | apply Kd.R_alloc | apply Kd.R_drewN | apply Kd.R_drew)); exact HO118.out))
                (case aS => exact (below_size (by repeat (first | (with_reducible first | exact HB.out | apply below_alloc | apply pw_below_drewN | apply below_drew1 | refine below_set ?_ GE111.out | refine below_set ?_ GE112.out | refine below_set ?_ GE113.out | refine below_set ?_ GE115.out) | exact HB.out))))
                (case aL => have := LMc14.out; omega)
                intro v120 w25 ho hb hg hat
                rw [← Ny119.out] at ho
                have n0_ := Aside0.mk (Kd.S_after (ok := (fun _ => True)) (by (with_reducible repeat (first | apply Kd.S_alloc | apply Kd.S_drewN | apply Kd.S_drew)); exact HO_114002.out) hg hat)
                have n1_ := Aside0.mk (blk_grown (g := gb111) (o := .cells #[.int .i64 a0_0, .int .i64 a0_1, .slice (some ad114) l0_2.length c0_2] 24 (0, 0)) (by (with_reducible repeat (first | refine blk_drewN ?_ _ | refine blk_drew ?_ | refine blk_alloc ?_ _)); exact BK111.out) hg (Kd.R_ne HO118.out BK111.out (by decide)))
                have n2_ := Aside0.mk (blk_grown (g := gb112) (o := .cells #[.int .i64 0, .int .i64 0, .slice none 0 0] 35 (0, 0)) (by (with_reducible repeat (first | refine blk_drewN ?_ _ | refine blk_drew ?_ | refine blk_alloc ?_ _)); exact BK112.out) hg (Kd.R_ne HO118.out BK112.out (by decide)))
                have n3_ := Aside0.mk (blk_grown (g := gb113) (o := .cells #[.int .i64 a0_0, .int .i64 a0_1, u114002] 35 (0, 0)) (by (with_reducible repeat (first | refine blk_drewN ?_ _ | refine blk_drew ?_ | refine blk_alloc ?_ _)); exact BK113.out) hg (Kd.R_ne HO118.out BK113.out (by decide)))
                have n4_ := Aside0.mk (blk_grown (g := gb115) (o := .cells #[.int .i64 ((rd_T65 l0_2 x14_1).f0), .int .i64 ((rd_T65 l0_2 x14_1).f1), .bool ((rd_T65 l0_2 x14_1).f2), .slice A114_3 ((rd_T65 l0_2 x14_1).f3).length c114_3] 65 (0, 0)) (by (with_reducible repeat (first | refine blk_drewN ?_ _ | refine blk_drew ?_ | refine blk_alloc ?_ _)); exact BK115.out) hg (Kd.R_ne HO118.out BK115.out (by decide)))
                have n5_ := Aside0.mk (hb)
                have n6_ := Aside0.mk (ho)
                clear HO_114002
                clear BK111
                clear BK112
                clear BK113
                clear BK115
                clear HB
                clear HO118
                have HO_114002 := n0_
                have BK111 := n1_
                have BK112 := n2_
                have BK113 := n3_
                have BK115 := n4_
                have HB := n5_
                have HO121 := n6_
                clear n0_ n1_ n2_ n3_ n4_ n5_ n6_
                clear ho hb hg hat
                obtain ⟨Ao26, co26, eo26⟩ := Kd.R_slice HO121.out
                (first | subst eo26 | (injection eo26 with f1_ f2_ f3_; have f4_ := f1_.symm; have f5_ := f3_.symm; clear f1_ f2_ f3_; subst f4_; subst f5_))
                refine hK.out _ _ ⟨(blk_cell BK113.out 0).trans rfl, (blk_cell BK113.out 1).trans rfl, (blk_cell BK113.out 2).trans rfl, (blk_cell BK115.out 0).trans rfl, (blk_cell BK115.out 1).trans rfl, (blk_cell BK115.out 2).trans rfl, (blk_cell BK115.out 3).trans rfl⟩ (fun hHeld => ?_)
                clear hK K
                refine norm_ (a' := ?_) ?_ ?_
                rotate_left
                · show Act.put _ (some 29) _ = _
                  simp only [Act.put, List.setIfInBounds_toArray, List.set_cons_zero, List.set_cons_succ, i64_w, i32_w]
                  rfl
                refine pure_ (i := 12) (N := some 30) (v := ?_) (a' := ?_) #[true, true, true, true, true, true, true, true, true, true, true, true, true, false, false, false, false] rfl rfl (any_of HT_.out (by kernel_rfl)) (fun _ _ _ h => h) (Or.inl ⟨by rfl, ?_⟩) ?_ ?_
                rotate_left
                · intro w'
                  go_simp
                  with_reducible rfl
                rotate_left
                · simp only [Act.put, List.setIfInBounds_toArray, List.set_cons_zero, List.set_cons_succ, i64_w, i32_w]
                  rfl
                refine one_ (i := 13) (N := some 31) #[true, true, true, true, true, true, true, true, true, true, true, true, true, true, false, false, false] rfl rfl (one_of HT_.out (by kernel_rfl)) (by decide) (fun K hK => ?_)
                refine value_ (w1 := ?_) (v := ?_) (by rfl) rfl ?_ ?_
                rotate_left 2
                · go_simp
                  constructor
                  · rfl
                  · rfl
                refine hK.out _ _ ⟨(blk_cell (blk_alloc BK113.out _) 0).trans rfl, (blk_cell (blk_alloc BK113.out _) 1).trans rfl, (blk_cell (blk_alloc BK113.out _) 2).trans rfl, (blk_cell (blk_alloc BK115.out _) 0).trans rfl, (blk_cell (blk_alloc BK115.out _) 1).trans rfl, (blk_cell (blk_alloc BK115.out _) 2).trans rfl, (blk_cell (blk_alloc BK115.out _) 3).trans rfl⟩ (fun hHeld => ?_)
                clear hK K
                refine norm_ (a' := ?_) ?_ ?_
                rotate_left
                · show Act.put _ (some 31) _ = _
                  simp only [Act.put, List.setIfInBounds_toArray, List.set_cons_zero, List.set_cons_succ, i64_w, i32_w]
                  rfl
                refine one_ (i := 14) (N := some 32) #[true, true, true, true, true, true, true, true, true, true, true, true, true, true, true, false, false] rfl rfl (one_of HT_.out (by kernel_rfl)) (by decide) (fun K hK => ?_)
                refine Kd.S_append_step k61 (w0 := w) w.heap.size (by rfl) (.tmp 19) (.tmp 31) 33 61 (.agg #[(.int .i64 0), (.int .i64 0), (.bool false), (.slice none 0 0)]) 48 rfl Try.underlying33 info61 rfl (by decide) (by omega) u114002 x114002_1 (⟨(rd_T65 l0_2 x14_1).f0, (rd_T65 l0_2 x14_1).f1, (rd_T65 l0_2 x14_1).f2, y119⟩ : S61) [.int .i64 ((rd_T65 l0_2 x14_1).f0), .int .i64 ((rd_T65 l0_2 x14_1).f1), .bool ((rd_T65 l0_2 x14_1).f2), .slice Ao26 y119.length co26] (fun _ => True) (fun k_ => some k_ = (.slice Ao26 y119.length co26 : Value).ownBlock) rfl rfl ?aP (fun k_ hk_ => ((Kd.R_mono (ok' := fun k_ => ((fun _ => True)) k_ ∧ some k_ ≠ (u114002 : Value).ownBlock) (Kd.R_apart' (HO121.out) (Kd.S_typed HO_114002.out) (by decide)) (fun k_ hk => ⟨trivial, hk.2⟩))).1 k_ hk_.symm) ?aF ?aO ?aB ?aS ?aL ?_
                (case aP => exact k61_mkM _ _ _ (⟨(rd_T65 l0_2 x14_1).f0, (rd_T65 l0_2 x14_1).f1, (rd_T65 l0_2 x14_1).f2, y119⟩ : S61) (Kd.R_mono (Kd.R_tight rfl (Kd.R_mono (ok' := fun k_ => ((fun _ => True)) k_ ∧ some k_ ≠ (u114002 : Value).ownBlock) (Kd.R_apart' (HO121.out) (Kd.S_typed HO_114002.out) (by decide)) (fun k_ hk => ⟨trivial, hk.2⟩))) (fun _ h_ => h_)))
                (case aB => exact (by repeat (first | (with_reducible first | exact HB.out | apply below_alloc | apply pw_below_drewN | apply below_drew1 | refine below_set ?_ GE111.out | refine below_set ?_ GE112.out | refine below_set ?_ GE113.out | refine below_set ?_ GE115.out) | exact HB.out)))
                (case aF => exact (fun _ _ => trivial))
                (case aO => exact (by (with_reducible repeat (first | apply Kd.S_alloc | apply Kd.S_drewN | apply Kd.S_drew)); exact Kd.S_mono HO_114002.out (fun k_ hk => ⟨trivial, fun e_ => hk.2 e_⟩)))
                (case aS => exact (below_size (by repeat (first | (with_reducible first | exact HB.out | apply below_alloc | apply pw_below_drewN | apply below_drew1 | refine below_set ?_ GE111.out | refine below_set ?_ GE112.out | refine below_set ?_ GE113.out | refine below_set ?_ GE115.out) | exact HB.out))))
                (case aL => have := LMc15.out; omega)
                intro v123 w27 ho hb hg hat
                rw [← Ny122.out] at ho
                have n0_ := Aside0.mk (blk_grown (g := gb111) (o := .cells #[.int .i64 a0_0, .int .i64 a0_1, .slice (some ad114) l0_2.length c0_2] 24 (0, 0)) (by (with_reducible repeat (first | refine blk_drewN ?_ _ | refine blk_drew ?_ | refine blk_alloc ?_ _)); exact BK111.out) hg (Kd.S_ne HO_114002.out BK111.out (by decide)))
                have n1_ := Aside0.mk (blk_grown (g := gb112) (o := .cells #[.int .i64 0, .int .i64 0, .slice none 0 0] 35 (0, 0)) (by (with_reducible repeat (first | refine blk_drewN ?_ _ | refine blk_drew ?_ | refine blk_alloc ?_ _)); exact BK112.out) hg (Kd.S_ne HO_114002.out BK112.out (by decide)))
                have n2_ := Aside0.mk (blk_grown (g := gb113) (o := .cells #[.int .i64 a0_0, .int .i64 a0_1, u114002] 35 (0, 0)) (by (with_reducible repeat (first | refine blk_drewN ?_ _ | refine blk_drew ?_ | refine blk_alloc ?_ _)); exact BK113.out) hg (Kd.S_ne HO_114002.out BK113.out (by decide)))
                have n3_ := Aside0.mk (blk_grown (g := gb115) (o := .cells #[.int .i64 ((rd_T65 l0_2 x14_1).f0), .int .i64 ((rd_T65 l0_2 x14_1).f1), .bool ((rd_T65 l0_2 x14_1).f2), .slice A114_3 ((rd_T65 l0_2 x14_1).f3).length c114_3] 65 (0, 0)) (by (with_reducible repeat (first | refine blk_drewN ?_ _ | refine blk_drew ?_ | refine blk_alloc ?_ _)); exact BK115.out) hg (Kd.S_ne HO_114002.out BK115.out (by decide)))
                have n4_ := Aside0.mk (hb)
                have n5_ := Aside0.mk (ho)
                clear BK111
                clear BK112
                clear BK113
                clear BK115
                clear HB
                clear HO_114002
                clear HO121
                have BK111 := n0_
                have BK112 := n1_
                have BK113 := n2_
                have BK115 := n3_
                have HB := n4_
                have HO124 := n5_
                clear n0_ n1_ n2_ n3_ n4_ n5_
                clear ho hb hg hat
                obtain ⟨Ao28, co28, eo28⟩ := Kd.S_slice HO124.out
                (first | subst eo28 | (injection eo28 with f1_ f2_ f3_; have f4_ := f1_.symm; have f5_ := f3_.symm; clear f1_ f2_ f3_; subst f4_; subst f5_))
                refine hK.out _ _ ⟨(blk_cell BK113.out 0).trans rfl, (blk_cell BK113.out 1).trans rfl, (blk_cell BK113.out 2).trans rfl, (blk_cell BK115.out 0).trans rfl, (blk_cell BK115.out 1).trans rfl, (blk_cell BK115.out 2).trans rfl, (blk_cell BK115.out 3).trans rfl⟩ (fun hHeld => ?_)
                clear hK K
                refine norm_ (a' := ?_) ?_ ?_
                rotate_left
                · show Act.put _ (some 32) _ = _
                  simp only [Act.put, List.setIfInBounds_toArray, List.set_cons_zero, List.set_cons_succ, i64_w, i32_w]
                  rfl
                refine pure_ (i := 15) (N := some 33) (v := ?_) (a' := ?_) #[true, true, true, true, true, true, true, true, true, true, true, true, true, true, true, true, false] rfl rfl (any_of HT_.out (by kernel_rfl)) (fun _ _ _ h => h) (Or.inl ⟨by rfl, ?_⟩) ?_ ?_
                rotate_left
                · intro w'
                  go_simp
                  with_reducible rfl
                rotate_left
                · simp only [Act.put, List.setIfInBounds_toArray, List.set_cons_zero, List.set_cons_succ, i64_w, i32_w]
                  rfl
                refine last_ (i := 16) (N := none) #[true, true, true, true, true, true, true, true, true, true, true, true, true, true, true, true, true] rfl rfl (one_of HT_.out (by kernel_rfl)) (by decide) (fun K hK => ?_)
                have hs29 : w27.cell? ⟨gb113, 2, none⟩ = some (u114002) := (blk_cell BK113.out 2).trans rfl
                have hfs29 := blk_frozen BK113.out 2
                have hns29_0 := NB111_113.out
                have hns29_1 := NB112_113.out
                have hns29_3 := NB115_113.out
                have hms29_0 := NB113_111.out
                have hms29_1 := NB113_112.out
                have hms29_3 := NB113_115.out
                refine skip_ (w1 := ?_) (by rfl) rfl ?_ ?_
                rotate_left
                · go_simp
                  rfl
                refine hK.out _ _ ?_
                clear hK K
                refine done_ (done_of HT_.out (by kernel_rfl)) ?_
                try go_wp2
                go_roundg k1
                case measure => have := HK1.out; omega
                case rel => exact ⟨(wrap64 (x14_1 + 1)), (y122), (.slice Ao28 y122.length co28), (by first | rfl | (simp; done) | (simp [*]; done)), H', ⟨by have := HK1.out; omega⟩, ⟨by (with_reducible repeat (first | apply Kd.S_alloc | apply Kd.S_drewN | apply Kd.S_drew)); exact Kd.S_mono (Kd.S_far (p := ⟨gb113, 2, none⟩) (Kd.S_types HO124.out BK113.out (by decide)) (fun _ hk => hk.2) (.slice Ao28 y122.length co28)) (fun _ hk => trivial)⟩, ⟨by (with_reducible repeat (first | refine blk_drewN ?_ _ | refine blk_drew ?_ | refine blk_alloc ?_ _)); refine blk_far ?_ NB111_113.out _; (with_reducible repeat (first | refine blk_drewN ?_ _ | refine blk_drew ?_ | refine blk_alloc ?_ _)); exact BK111.out⟩, ⟨by (with_reducible repeat (first | refine blk_drewN ?_ _ | refine blk_drew ?_ | refine blk_alloc ?_ _)); refine blk_far ?_ NB112_113.out _; (with_reducible repeat (first | refine blk_drewN ?_ _ | refine blk_drew ?_ | refine blk_alloc ?_ _)); exact BK112.out⟩, ⟨by (with_reducible repeat (first | refine blk_drewN ?_ _ | refine blk_drew ?_ | refine blk_alloc ?_ _)); refine blk_put (cs := #[.int .i64 a0_0, .int .i64 a0_1, u114002]) ?_ 2 _ rfl; (with_reducible repeat (first | refine blk_drewN ?_ _ | refine blk_drew ?_ | refine blk_alloc ?_ _)); exact BK113.out⟩, ⟨by repeat (first | (with_reducible first | exact HB.out | apply below_alloc | apply pw_below_drewN | apply below_drew1 | refine below_set ?_ GE111.out | refine below_set ?_ GE112.out | refine below_set ?_ GE113.out | refine below_set ?_ GE115.out) | exact HB.out)⟩⟩
              · rw [if_neg c15] at H
                exact absurd H (by simp)
            · rw [if_neg c14] at H
              exact absurd H (by simp)
          · rw [if_neg c13] at H
            exact absurd H (by simp)
        · rw [if_neg c12] at H
          exact absurd H (by simp)
      · rw [if_neg c11] at H
        have c11b0 : decide (x14_1 < (l0_2.length : Int)) = false := decide_eq_false c11
        clear c11
        simp only [Option.some.injEq, Prod.mk.injEq] at H
        obtain ⟨rfl, rfl, rfl⟩ := H
        have hnb30 := NB113_111.out
        have hnc30 := NB111_113.out
        have hnb31 := NB113_112.out
        have hnc31 := NB112_113.out
        have hcz32_0 : wr.cell? ⟨gb113, 0, none⟩ = some (.int .i64 a0_0) := (blk_cell BK113.out 0).trans rfl
        have hcz32_1 : wr.cell? ⟨gb113, 1, none⟩ = some (.int .i64 a0_1) := (blk_cell BK113.out 1).trans rfl
        have hcz32_2 : wr.cell? ⟨gb113, 2, none⟩ = some (u114002) := (blk_cell BK113.out 2).trans rfl
        have hfz32_0 := blk_frozen BK113.out 0
        have hfz32_1 := blk_frozen BK113.out 1
        have hfz32_2 := blk_frozen BK113.out 2
        have hnb33 := NB112_111.out
        have hnc33 := NB111_112.out
        have hcz34_0 : wr.cell? ⟨gb112, 0, none⟩ = some (.int .i64 0) := (blk_cell BK112.out 0).trans rfl
        have hcz34_1 : wr.cell? ⟨gb112, 1, none⟩ = some (.int .i64 0) := (blk_cell BK112.out 1).trans rfl
        have hcz34_2 : wr.cell? ⟨gb112, 2, none⟩ = some (.slice none 0 0) := (blk_cell BK112.out 2).trans rfl
        have hfz34_0 := blk_frozen BK112.out 0
        have hfz34_1 := blk_frozen BK112.out 1
        have hfz34_2 := blk_frozen BK112.out 2
        obtain ⟨Ao35, co35, eo35⟩ := Kd.S_slice HO_114002.out
        subst eo35
        go_wp2
        refine bodyPost_ret (results_cell_row rfl _ _ gb112 35 #[.int .i64 a0_0, .int .i64 a0_1, .slice Ao35 x114002_1.length co35] (0, 0) _ rfl (by (with_reducible repeat (first | refine blk_drewN ?_ _ | refine blk_drew ?_ | refine blk_alloc ?_ _)); refine blk_put (cs := #[.int .i64 a0_0, .int .i64 a0_1, .slice none 0 0]) ?_ 2 _ rfl; (with_reducible repeat (first | refine blk_drewN ?_ _ | refine blk_drew ?_ | refine blk_alloc ?_ _)); refine blk_put (cs := #[.int .i64 a0_0, .int .i64 0, .slice none 0 0]) ?_ 1 _ rfl; (with_reducible repeat (first | refine blk_drewN ?_ _ | refine blk_drew ?_ | refine blk_alloc ?_ _)); refine blk_put (cs := #[.int .i64 0, .int .i64 0, .slice none 0 0]) ?_ 0 _ rfl; (with_reducible repeat (first | refine blk_drewN ?_ _ | refine blk_drew ?_ | refine blk_alloc ?_ _)); exact BK112.out) Try.underlying35 rfl (by kernel_rfl)) rfl ?_
        exact ⟨_, by first | rfl | (simp [errW_none, errW_some] <;> rfl) | (simp [*, errW_none, errW_some] <;> rfl), by (with_reducible repeat (first | apply Kd.S_alloc | apply Kd.S_drewN | apply Kd.S_drew)); exact Kd.S_mono (Kd.S_far (p := ⟨gb112, 2, none⟩) (Kd.S_far (p := ⟨gb112, 1, none⟩) (Kd.S_far (p := ⟨gb112, 0, none⟩) (Kd.S_types HO_114002.out BK112.out (by decide)) (fun _ hk => hk.2) (.int .i64 a0_0)) (fun _ hk => hk.2) (.int .i64 a0_1)) (fun _ hk => hk.2) (.slice Ao35 x114002_1.length co35)) (fun _ hk => trivial), by repeat (first | (with_reducible first | exact HB.out | apply below_alloc | apply pw_below_drewN | apply below_drew1 | refine below_set ?_ GE111.out | refine below_set ?_ GE112.out | refine below_set ?_ GE113.out) | exact HB.out)⟩

/-! ### laminaref17_Resized: function 33 -/
def laminaref17_Resized.l0 : Nat → List Int → Int → List Int → Int → Option (List Int)
  | 0, _, _, _, _ => none
  | k + 1, x0, x1, x5, x6 => if x6 < x1 then (if x6 < (x0.length : Int) then (if 0 ≤ x6 then (if x5.length < 140737488355328 then (laminaref17_Resized.l0 k x0 x1 (x5 ++ [rd x0 x6]) (wrap64 (x6 + 1))) else (none)) else (none)) else (if x5.length < 140737488355328 then (laminaref17_Resized.l0 k x0 x1 (x5 ++ [0]) (wrap64 (x6 + 1))) else (none))) else (some x5)
def laminaref17_Resized.f (k : Nat) (l0 : List Int) (a1 : Int) : Option (List Int) := laminaref17_Resized.l0 k l0 a1 ([] : List Int) 0
theorem laminaref17_Resized.mono_l : ∀ k, (∀ y0 y1 y2 y3, LeO (laminaref17_Resized.l0 k y0 y1 y2 y3) (laminaref17_Resized.l0 (k + 1) y0 y1 y2 y3))
  | 0 => fun _ _ _ _ r h => by simp [laminaref17_Resized.l0] at h
  | k + 1 => by
    have ih0 := laminaref17_Resized.mono_l k
    · intro y0 y1 y2 y3
      unfold laminaref17_Resized.l0
      repeat' first
      | (with_reducible exact ih0 _ _ _ _)
      | (with_reducible exact LeO.refl _)
      | (with_reducible exact LeO.none _)
      | (with_reducible refine LeO.ite ?_ ?_)
      | (with_reducible refine LeO.bind ?_ (fun _ => ?_))
      | exact ih0 _ _ _ _
      | exact LeO.none _
      | refine LeO.ite ?_ ?_
      | refine LeO.bind ?_ (fun _ => ?_)
theorem laminaref17_Resized.mono : ∀ a0 a1 k, LeO (laminaref17_Resized.f k a0 a1) (laminaref17_Resized.f (k + 1) a0 a1) := by
  intro a0 a1 k
  have ih0 := laminaref17_Resized.mono_l k
  unfold laminaref17_Resized.f
  repeat' first
      | (with_reducible exact ih0 _ _ _ _)
      | (with_reducible exact LeO.refl _)
      | (with_reducible exact LeO.none _)
      | (with_reducible refine LeO.ite ?_ ?_)
      | (with_reducible refine LeO.bind ?_ (fun _ => ?_))
      | exact ih0 _ _ _ _
      | exact LeO.none _
      | refine LeO.ite ?_ ?_
      | refine LeO.bind ?_ (fun _ => ?_)
set_option maxHeartbeats 8000000 in
set_option maxRecDepth 100000 in
theorem laminaref17_Resized.calls (k : Nat) (A0 : Option Addr) (c0 : Nat) (l0 : List Int) (a1 : Int) (r : List Int) (w : World) (hr0 : Kd.C (Kd.int .u8) w A0 l0.length l0) (hc0 : l0.length ≤ c0) (h : laminaref17_Resized.f k l0 a1 = some r) :
    Calls Try.prog 33 #[.slice A0 l0.length c0, .int .i64 a1] w fun e w' => ∃ v0_ : Value, e = .returned (v0_) ∧ Kd.R (Kd.int .u8) 5 w' w.heap.size (fun _ => True) v0_ r ∧ Below w.heap.size w w' := by
  have HR0 := Aside0.mk hr0
  have HC0 := Aside0.mk hc0
  clear hr0 hc0
  have HB := Aside0.mk (Below.refl w.heap.size w)
  have H : (laminaref17_Resized.l0 k l0 a1 ([] : List Int) 0) = some r := h
  clear h
  have H' := Aside0.mk H
  clear H
  go_enter Try.func33, Try.ntmps33
  go_wp2
  go_loopg [5, 6] k (fun kq v5 v6 w' => ∃ (x5_1 : List Int) (x6_1 : Int), v6 = .int .i64 x6_1 ∧ Aside0 (laminaref17_Resized.l0 kq l0 a1 x5_1 x6_1 = some r) ∧ Aside0 (kq ≤ k) ∧ Aside0 (Kd.R (Kd.int .u8) 5 w' w.heap.size (fun _ => True) v5 x5_1) ∧ Aside0 (Below w.heap.size w w'))
  case atStart => exact ⟨(([] : List Int)), (0), (by first | rfl | (simp; done) | (simp [*]; done)), H', ⟨Nat.le_refl _⟩, ⟨by first | exact Kd.R_nil _ _ _ _ _ | exact Kd.N_nil _ _ _ _ _ | exact Kd.V_nil _ _ _ _ _ | exact Kd.Q_nil _ _ _ _ _ | exact Kd.S_nil _ _ _ _ _⟩, ⟨by repeat (first | (with_reducible first | exact HB.out | apply below_alloc | apply pw_below_drewN | apply below_drew1) | exact HB.out)⟩⟩
  case round =>
    clear H'
    try clear p2
    obtain ⟨x5_1, x6_1, rfl, HA, HK1, HO_5, HB⟩ := hrel
    cases gk with
    | zero => exact absurd HA.out (by simp [laminaref17_Resized.l0])
    | succ k1 =>
      have H := HA.out
      clear HA
      simp only [laminaref17_Resized.l0] at H
      by_cases c3 : x6_1 < a1
      · rw [if_pos c3] at H
        have c3b0 : decide (x6_1 < a1) = true := decide_eq_true c3
        clear c3
        by_cases c4 : x6_1 < (l0.length : Int)
        · rw [if_pos c4] at H
          have c4b0 : decide (x6_1 < (l0.length : Int)) = true := decide_eq_true c4
          clear c4
          by_cases c5 : 0 ≤ x6_1
          · rw [if_pos c5] at H
            have c5b0 : decide (0 ≤ x6_1) = true := decide_eq_true c5
            clear c5
            by_cases c6 : x5_1.length < 140737488355328
            · rw [if_pos c6] at H
              have LMc6 := Aside0.mk c6
              clear c6
              obtain ⟨y128, hy128⟩ : ∃ y_ : List Int, y_ = (x5_1 ++ [rd l0 x6_1]) := ⟨_, rfl⟩
              replace H : (laminaref17_Resized.l0 k1 l0 a1 y128 (wrap64 (x6_1 + 1))) = some r := by first | (rw [hy128]; with_reducible exact H) | (have H2_ := (Option.bind_some _ _).symm.trans H; rw [hy128]; with_reducible exact H2_) | (have H2_ := (Option.bind_some _ _).symm.trans H; with_reducible exact H2_) | with_reducible exact H | (rw [hy128]; exact H) | exact H
              have Ny128 := Aside0.mk hy128
              clear hy128
              have H' := Aside0.mk H
              clear H
              have p127 : 0 ≤ (x6_1 : Int) := of_decide_eq_true (by first | (with_reducible assumption) | assumption)
              have q127 : x6_1 < (l0.length : Int) := of_decide_eq_true (by first | (with_reducible assumption) | assumption)
              obtain ⟨ad127, e127, hx127_0⟩ := Kd.at_int HR0.out x6_1 p127 q127
              cases e127
              replace hx127_0 := (HB.out.cell (World.block_lt_of_cell? w _ hx127_0)).trans hx127_0
              replace p127 := eq_true p127
              replace q127 := eq_true q127
              go_wp2_with (first | ((with_reducible refine gate_builtin (b := .append) (xs := #[.tmp 21, .tmp 23]) rfl ?_); at_builtin; refine Kd.R_append (Kd.int .u8) (w0 := w) w.heap.size rfl (.tmp 21) (.tmp 23) 25 5 (.int .u8 0) 1 rfl Try.underlying25 info5 rfl (by decide) (by omega) u5 x5_1 (rd l0 x6_1) [.int .u8 (rd l0 x6_1)] (fun _ => True) (fun _ => False) rfl rfl ?aP (fun _ hk => hk.elim) ?aF ?aO ?aB ?aS ?aL ?_; (case aP => exact rfl); (case aB => exact (by repeat (first | (with_reducible first | exact HB.out | apply below_alloc | apply pw_below_drewN | apply below_drew1) | exact HB.out))); (case aF => exact (fun _ _ => trivial)); (case aO => exact (by (with_reducible repeat (first | apply Kd.R_alloc | apply Kd.R_drewN | apply Kd.R_drew)); exact HO_5.out)); (case aS => exact (below_size (by repeat (first | (with_reducible first | exact HB.out | apply below_alloc | apply pw_below_drewN | apply below_drew1) | exact HB.out)))); (case aL => have := LMc6.out; omega); intro v129 w7 ho hb hg hat; rw [← Ny128.out] at ho; have n0_ := Aside0.mk (hb); have n1_ := Aside0.mk (ho); clear HB; clear HO_5; have HB := n0_; have HO130 := n1_; clear n0_ n1_; clear ho hb hg hat))
              go_roundg k1
              case measure => have := HK1.out; omega
              case rel => exact ⟨(y128), (wrap64 (x6_1 + 1)), (by first | rfl | (simp; done) | (simp [*]; done)), H', ⟨by have := HK1.out; omega⟩, ⟨by (with_reducible repeat (first | apply Kd.R_alloc | apply Kd.R_drewN | apply Kd.R_drew)); exact HO130.out⟩, ⟨by repeat (first | (with_reducible first | exact HB.out | apply below_alloc | apply pw_below_drewN | apply below_drew1) | exact HB.out)⟩⟩
            · rw [if_neg c6] at H
              exact absurd H (by simp)
          · rw [if_neg c5] at H
            exact absurd H (by simp)
        · rw [if_neg c4] at H
          have c4b0 : decide (x6_1 < (l0.length : Int)) = false := decide_eq_false c4
          clear c4
          by_cases c8 : x5_1.length < 140737488355328
          · rw [if_pos c8] at H
            have LMc8 := Aside0.mk c8
            clear c8
            obtain ⟨y131, hy131⟩ : ∃ y_ : List Int, y_ = (x5_1 ++ [0]) := ⟨_, rfl⟩
            replace H : (laminaref17_Resized.l0 k1 l0 a1 y131 (wrap64 (x6_1 + 1))) = some r := by first | (rw [hy131]; with_reducible exact H) | (have H2_ := (Option.bind_some _ _).symm.trans H; rw [hy131]; with_reducible exact H2_) | (have H2_ := (Option.bind_some _ _).symm.trans H; with_reducible exact H2_) | with_reducible exact H | (rw [hy131]; exact H) | exact H
            have Ny131 := Aside0.mk hy131
            clear hy131
            have H' := Aside0.mk H
            clear H
            go_wp2_with (first | ((with_reducible refine gate_builtin (b := .append) (xs := #[.tmp 21, .tmp 23]) rfl ?_); at_builtin; refine Kd.R_append (Kd.int .u8) (w0 := w) w.heap.size rfl (.tmp 21) (.tmp 23) 25 5 (.int .u8 0) 1 rfl Try.underlying25 info5 rfl (by decide) (by omega) u5 x5_1 0 [.int .u8 0] (fun _ => True) (fun _ => False) rfl rfl ?aP (fun _ hk => hk.elim) ?aF ?aO ?aB ?aS ?aL ?_; (case aP => exact rfl); (case aB => exact (by repeat (first | (with_reducible first | exact HB.out | apply below_alloc | apply pw_below_drewN | apply below_drew1) | exact HB.out))); (case aF => exact (fun _ _ => trivial)); (case aO => exact (by (with_reducible repeat (first | apply Kd.R_alloc | apply Kd.R_drewN | apply Kd.R_drew)); exact HO_5.out)); (case aS => exact (below_size (by repeat (first | (with_reducible first | exact HB.out | apply below_alloc | apply pw_below_drewN | apply below_drew1) | exact HB.out)))); (case aL => have := LMc8.out; omega); intro v132 w9 ho hb hg hat; rw [← Ny131.out] at ho; have n0_ := Aside0.mk (hb); have n1_ := Aside0.mk (ho); clear HB; clear HO_5; have HB := n0_; have HO133 := n1_; clear n0_ n1_; clear ho hb hg hat))
            go_roundg k1
            case measure => have := HK1.out; omega
            case rel => exact ⟨(y131), (wrap64 (x6_1 + 1)), (by first | rfl | (simp; done) | (simp [*]; done)), H', ⟨by have := HK1.out; omega⟩, ⟨by (with_reducible repeat (first | apply Kd.R_alloc | apply Kd.R_drewN | apply Kd.R_drew)); exact HO133.out⟩, ⟨by repeat (first | (with_reducible first | exact HB.out | apply below_alloc | apply pw_below_drewN | apply below_drew1) | exact HB.out)⟩⟩
          · rw [if_neg c8] at H
            exact absurd H (by simp)
      · rw [if_neg c3] at H
        have c3b0 : decide (x6_1 < a1) = false := decide_eq_false c3
        clear c3
        obtain rfl := Option.some.inj H
        go_wp2
        go_ret
        exact ⟨_, by first | rfl | (simp [errW_none, errW_some] <;> rfl) | (simp [*, errW_none, errW_some] <;> rfl), by (with_reducible repeat (first | apply Kd.R_alloc | apply Kd.R_drewN | apply Kd.R_drew)); exact HO_5.out, by repeat (first | (with_reducible first | exact HB.out | apply below_alloc | apply pw_below_drewN | apply below_drew1) | exact HB.out)⟩

/-! ### laminaref17_Apply: function 17 -/
mutual
def laminaref17_Apply.l0 : Nat → List Int → Int → Int → Int → List (S65) → Option (List Int)
  | 0, _, _, _, _, _ => none
  | k + 1, x5, x6, x135000, x135001, x135002 => if x6 < (x135002.length : Int) then (if 0 ≤ x6 then (laminaref17_Apply.l1 k x5 x6 0 x135000 x135001 x135002 ((rd_T65 x135002 x6).f0) ((rd_T65 x135002 x6).f1) ((rd_T65 x135002 x6).f2) ((rd_T65 x135002 x6).f3)) else (none)) else (some x5)
def laminaref17_Apply.l1 : Nat → List Int → Int → Int → Int → Int → List (S65) → Int → Int → Bool → List Int → Option (List Int)
  | 0, _, _, _, _, _, _, _, _, _, _ => none
  | k + 1, x5, x6, x8, x135000, x135001, x135002, x140000, x140001, x140002, x140003 => if x8 < x140001 then (if x140002 = true then (if 0 ≤ (wrap64 (x140000 + x8)) then (if (wrap64 (x140000 + x8)) < (x5.length : Int) then (laminaref17_Apply.l1 k (x5.set ((wrap64 (x140000 + x8)) : Int).toNat 0) x6 (wrap64 (x8 + 1)) x135000 x135001 x135002 x140000 x140001 x140002 x140003) else (none)) else (none)) else (if 0 ≤ x8 then (if x8 < (x140003.length : Int) then (if 0 ≤ (wrap64 (x140000 + x8)) then (if (wrap64 (x140000 + x8)) < (x5.length : Int) then (laminaref17_Apply.l1 k (x5.set ((wrap64 (x140000 + x8)) : Int).toNat (rd x140003 x8)) x6 (wrap64 (x8 + 1)) x135000 x135001 x135002 x140000 x140001 x140002 x140003) else (none)) else (none)) else (none)) else (none))) else (laminaref17_Apply.l0 k x5 (wrap64 (x6 + 1)) x135000 x135001 x135002)
end
def laminaref17_Apply.f (k : Nat) (a0_0 : Int) (a0_1 : Int) (l0_2 : List (S65)) (l1 : List Int) : Option (List Int) := (laminaref17_Resized.f k l1 a0_1).bind fun t135 => (laminaref17_Apply.l0 k t135 0 a0_0 a0_1 l0_2)
theorem laminaref17_Apply.mono_l : ∀ k, (∀ y0 y1 y2 y3 y4, LeO (laminaref17_Apply.l0 k y0 y1 y2 y3 y4) (laminaref17_Apply.l0 (k + 1) y0 y1 y2 y3 y4)) ∧ (∀ y0 y1 y2 y3 y4 y5 y6 y7 y8 y9, LeO (laminaref17_Apply.l1 k y0 y1 y2 y3 y4 y5 y6 y7 y8 y9) (laminaref17_Apply.l1 (k + 1) y0 y1 y2 y3 y4 y5 y6 y7 y8 y9))
  | 0 => ⟨fun _ _ _ _ _ r h => by simp [laminaref17_Apply.l0] at h, fun _ _ _ _ _ _ _ _ _ _ r h => by simp [laminaref17_Apply.l1] at h⟩
  | k + 1 => by
    obtain ⟨ih0, ih1⟩ := laminaref17_Apply.mono_l k
    refine ⟨?_, ?_⟩
    · intro y0 y1 y2 y3 y4
      unfold laminaref17_Apply.l0
      repeat' first
      | (with_reducible exact ih0 _ _ _ _ _)
      | (with_reducible exact ih1 _ _ _ _ _ _ _ _ _ _)
      | (with_reducible exact laminaref17_Resized.mono _ _ _)
      | (with_reducible exact LeO.refl _)
      | (with_reducible exact LeO.none _)
      | (with_reducible refine LeO.ite ?_ ?_)
      | (with_reducible refine LeO.bind ?_ (fun _ => ?_))
      | exact ih0 _ _ _ _ _
      | exact ih1 _ _ _ _ _ _ _ _ _ _
      | exact laminaref17_Resized.mono _ _ _
      | exact LeO.none _
      | refine LeO.ite ?_ ?_
      | refine LeO.bind ?_ (fun _ => ?_)
    · intro y0 y1 y2 y3 y4 y5 y6 y7 y8 y9
      unfold laminaref17_Apply.l1
      repeat' first
      | (with_reducible exact ih0 _ _ _ _ _)
      | (with_reducible exact ih1 _ _ _ _ _ _ _ _ _ _)
      | (with_reducible exact laminaref17_Resized.mono _ _ _)
      | (with_reducible exact LeO.refl _)
      | (with_reducible exact LeO.none _)
      | (with_reducible refine LeO.ite ?_ ?_)
      | (with_reducible refine LeO.bind ?_ (fun _ => ?_))
      | exact ih0 _ _ _ _ _
      | exact ih1 _ _ _ _ _ _ _ _ _ _
      | exact laminaref17_Resized.mono _ _ _
      | exact LeO.none _
      | refine LeO.ite ?_ ?_
      | refine LeO.bind ?_ (fun _ => ?_)
theorem laminaref17_Apply.mono : ∀ a0 a1 a2 a3 k, LeO (laminaref17_Apply.f k a0 a1 a2 a3) (laminaref17_Apply.f (k + 1) a0 a1 a2 a3) := by
  intro a0 a1 a2 a3 k
  obtain ⟨ih0, ih1⟩ := laminaref17_Apply.mono_l k
  unfold laminaref17_Apply.f
  repeat' first
      | (with_reducible exact ih0 _ _ _ _ _)
      | (with_reducible exact ih1 _ _ _ _ _ _ _ _ _ _)
      | (with_reducible exact laminaref17_Resized.mono _ _ _)
      | (with_reducible exact LeO.refl _)
      | (with_reducible exact LeO.none _)
      | (with_reducible refine LeO.ite ?_ ?_)
      | (with_reducible refine LeO.bind ?_ (fun _ => ?_))
      | exact ih0 _ _ _ _ _
      | exact ih1 _ _ _ _ _ _ _ _ _ _
      | exact laminaref17_Resized.mono _ _ _
      | exact LeO.none _
      | refine LeO.ite ?_ ?_
      | refine LeO.bind ?_ (fun _ => ?_)
set_option maxHeartbeats 8000000 in
set_option maxRecDepth 100000 in
theorem laminaref17_Apply.calls (k : Nat) (a0_0 : Int) (a0_1 : Int) (A0_2 : Option Addr) (c0_2 : Nat) (l0_2 : List (S65)) (A1 : Option Addr) (c1 : Nat) (l1 : List Int) (r : List Int) (w : World) (hr0_2 : Kd.C k65 w A0_2 l0_2.length l0_2) (hc0_2 : l0_2.length ≤ c0_2) (hr1 : Kd.C (Kd.int .u8) w A1 l1.length l1) (hc1 : l1.length ≤ c1) (h : laminaref17_Apply.f k a0_0 a0_1 l0_2 l1 = some r) :
    Calls Try.prog 17 #[.agg #[.int .i64 a0_0, .int .i64 a0_1, .slice A0_2 l0_2.length c0_2], .slice A1 l1.length c1] w fun e w' => ∃ v0_ : Value, e = .returned (v0_) ∧ Kd.R (Kd.int .u8) 5 w' w.heap.size (fun _ => True) v0_ r ∧ Below w.heap.size w w' := by
  have hu24 := Try.underlying24
  have hu65 := Try.underlying65
  have HR0_2 := Aside0.mk hr0_2
  have HC0_2 := Aside0.mk hc0_2
  clear hr0_2 hc0_2
  have HR1 := Aside0.mk hr1
  have HC1 := Aside0.mk hc1
  clear hr1 hc1
  have HB := Aside0.mk (Below.refl w.heap.size w)
  have H : ((laminaref17_Resized.f k l1 a0_1).bind fun t135 => (laminaref17_Apply.l0 k t135 0 a0_0 a0_1 l0_2)) = some r := h
  clear h
  replace H := Option.bind_eq_some_iff.mp H
  obtain ⟨t135, A30, H⟩ := H
  replace H : (laminaref17_Apply.l0 k t135 0 a0_0 a0_1 l0_2) = some r := H
  have A3 := Aside0.mk A30
  clear A30
  have H' := Aside0.mk H
  clear H
  go_enter Try.func17, Try.ntmps17
  go_wp2_with (first | ((with_reducible refine gate_dst (N := 2) rfl ?_); refine box_event ?hg (N := 2) ?hd (cs := #[.int .i64 a0_0, .int .i64 a0_1, .slice A0_2 l0_2.length c0_2]) (t := 24) ?hr ?_; (case hd => rfl); (case hg => rfl); (case hr => first | (go_simp; done) | (go_simp; rfl)); intro gb134 hg w4 hbox hb; have n0_ := Aside0.mk (below_step (by repeat (first | (with_reducible first | exact HB.out | apply below_alloc | apply pw_below_drewN | apply below_drew1) | exact HB.out)) hb); have n1_ := Aside0.mk (hbox); have n2_ := Aside0.mk ((by rw [hg]; exact (below_size (by repeat (first | (with_reducible first | exact HB.out | apply below_alloc | apply pw_below_drewN | apply below_drew1) | exact HB.out))) : w.heap.size ≤ gb134)); have n3_ := Aside0.mk ((by rw [hg]; exact (below_size (by repeat (first | (with_reducible first | exact HB.out | apply below_alloc | apply pw_below_drewN | apply below_drew1) | exact HB.out))) : w.heap.size ≤ gb134)); clear HB; have HB := n0_; have BK134 := n1_; have GW134 := n2_; have GE134 := n3_; clear n0_ n1_ n2_ n3_; clear hb hbox hg; have hcz5_0 : w4.cell? ⟨gb134, 0, none⟩ = some (.int .i64 a0_0) := (blk_cell BK134.out 0).trans rfl; have hcz5_1 : w4.cell? ⟨gb134, 1, none⟩ = some (.int .i64 a0_1) := (blk_cell BK134.out 1).trans rfl; have hcz5_2 : w4.cell? ⟨gb134, 2, none⟩ = some (.slice A0_2 l0_2.length c0_2) := (blk_cell BK134.out 2).trans rfl; have hfz5_0 := blk_frozen BK134.out 0; have hfz5_1 := blk_frozen BK134.out 1; have hfz5_2 := blk_frozen BK134.out 2) | ((with_reducible refine gate_callee (f := 33) rfl ?_); refine goesL_ (some 13) rfl rfl Try.func33 (by kernel_rfl) rfl #[.slice A1 l1.length c1, .int .i64 a0_1] rfl (by (try simp only [List.map_toArray, List.map_cons, List.map_nil]); first | done | rfl | (simp only [List.length_drop, List.length_take]; rfl)) ?_; (with_reducible refine (laminaref17_Resized.calls k _ _ l1 a0_1 t135 _ ?side1 ?side2 A3.out).mono ?_); (case side1 => repeat (first | exact (Kd.C_below HR1.out HB.out) | (with_reducible refine Kd.C_alloc ?_ _) | (with_reducible refine Kd.C_drewN ?_ _) | (with_reducible refine Kd.C_drew ?_))); (case side2 => exact HC1.out); rintro e w6 ⟨v136, rfl, ho0, hb⟩; refine ⟨_, rfl, ?_⟩; have n0_ := Aside0.mk (Kd.R_lower ho0 (below_size (by repeat (first | (with_reducible first | exact HB.out | apply below_alloc | apply pw_below_drewN | apply below_drew1 | refine below_set ?_ GE134.out) | exact HB.out)))); have n1_ := Aside0.mk (blk_below (g := gb134) (o := .cells #[.int .i64 a0_0, .int .i64 a0_1, .slice A0_2 l0_2.length c0_2] 24 (0, 0)) (by (with_reducible repeat (first | refine blk_drewN ?_ _ | refine blk_drew ?_ | refine blk_alloc ?_ _)); exact BK134.out) hb); have n2_ := Aside0.mk (below_step (by repeat (first | (with_reducible first | exact HB.out | apply below_alloc | apply pw_below_drewN | apply below_drew1 | refine below_set ?_ GE134.out) | exact HB.out)) hb); clear BK134; clear HB; have HO137 := n0_; have BK134 := n1_; have HB := n2_; clear n0_ n1_ n2_; (try clear hb); (try clear hb2); (try clear hk); (try clear hi); (try clear ho0)))
  go_loopg [6] k (fun kq v6 w' => ∃ (x5_1 : List Int) (x6_1 : Int), v6 = .int .i64 x6_1 ∧ Aside0 (laminaref17_Apply.l0 kq x5_1 x6_1 a0_0 a0_1 l0_2 = some r) ∧ Aside0 (kq ≤ k) ∧ Aside0 (Kd.R (Kd.int .u8) 5 w' w.heap.size (fun _ => True) v136 x5_1) ∧ Aside0 (w'.heap[gb134]? = some (.cells #[.int .i64 a0_0, .int .i64 a0_1, (.slice A0_2 l0_2.length c0_2)] 24 (0, 0))) ∧ Aside0 (Below w.heap.size w w'))
  case atStart => exact ⟨(t135), (0), (by first | rfl | (simp; done) | (simp [*]; done)), H', ⟨Nat.le_refl _⟩, ⟨by (with_reducible repeat (first | apply Kd.R_alloc | apply Kd.R_drewN | apply Kd.R_drew)); exact HO137.out⟩, ⟨by (with_reducible repeat (first | refine blk_drewN ?_ _ | refine blk_drew ?_ | refine blk_alloc ?_ _)); exact BK134.out⟩, ⟨by repeat (first | (with_reducible first | exact HB.out | apply below_alloc | apply pw_below_drewN | apply below_drew1 | refine below_set ?_ GE134.out) | exact HB.out)⟩⟩
  case round =>
    clear H'
    try clear c1
    try clear p2
    try clear c3
    try clear hcz5_0
    try clear hcz5_1
    try clear hcz5_2
    try clear hfz5_0
    try clear hfz5_1
    try clear hfz5_2
    obtain ⟨x5_1, x6_1, rfl, HA, HK1, HO_5, BK134, HB⟩ := hrel
    cases gk with
    | zero => exact absurd HA.out (by simp [laminaref17_Apply.l0])
    | succ k1 =>
      have H := HA.out
      clear HA
      simp only [laminaref17_Apply.l0] at H
      by_cases c7 : x6_1 < (l0_2.length : Int)
      · rw [if_pos c7] at H
        have c7b0 : decide (x6_1 < (l0_2.length : Int)) = true := decide_eq_true c7
        clear c7
        by_cases c8 : 0 ≤ x6_1
        · rw [if_pos c8] at H
          have c8b0 : decide (0 ≤ x6_1) = true := decide_eq_true c8
          clear c8
          have H' := Aside0.mk H
          clear H
          have hcz9_0 : wr.cell? ⟨gb134, 0, none⟩ = some (.int .i64 a0_0) := (blk_cell BK134.out 0).trans rfl
          have hcz9_1 : wr.cell? ⟨gb134, 1, none⟩ = some (.int .i64 a0_1) := (blk_cell BK134.out 1).trans rfl
          have hcz9_2 : wr.cell? ⟨gb134, 2, none⟩ = some (.slice A0_2 l0_2.length c0_2) := (blk_cell BK134.out 2).trans rfl
          have hfz9_0 := blk_frozen BK134.out 0
          have hfz9_1 := blk_frozen BK134.out 1
          have hfz9_2 := blk_frozen BK134.out 2
          have p138 : 0 ≤ (x6_1 : Int) := of_decide_eq_true (by first | (with_reducible assumption) | assumption)
          have q138 : x6_1 < (l0_2.length : Int) := of_decide_eq_true (by first | (with_reducible assumption) | assumption)
          obtain ⟨ad138, A138_3, c138_3, e138, hx138_0, hx138_1, hx138_2, hx138_3, hl138_3, hi138_3⟩ := at_T65 HR0_2.out x6_1 p138 q138
          cases e138
          replace hx138_0 := (HB.out.cell (World.block_lt_of_cell? w _ hx138_0)).trans hx138_0
          replace hx138_1 := (HB.out.cell (World.block_lt_of_cell? w _ hx138_1)).trans hx138_1
          replace hx138_2 := (HB.out.cell (World.block_lt_of_cell? w _ hx138_2)).trans hx138_2
          replace hx138_3 := (HB.out.cell (World.block_lt_of_cell? w _ hx138_3)).trans hx138_3
          have HR138_3 := Aside0.mk hi138_3
          have HC138_3 := Aside0.mk hl138_3
          clear hi138_3 hl138_3
          replace p138 := eq_true p138
          replace q138 := eq_true q138
          go_wp2_with (first | ((with_reducible refine gate_dst (N := 7) rfl ?_); refine box_event ?hg (N := 7) ?hd (cs := #[.int .i64 0, .int .i64 0, .bool false, .slice none 0 0]) (t := 65) ?hr ?_; (case hd => rfl); (case hg => rfl); (case hr => first | (go_simp; done) | (go_simp; rfl)); intro gb139 hg w10 hbox hb; have n0_ := Aside0.mk (Kd.R_below (by (with_reducible repeat (first | apply Kd.R_alloc | apply Kd.R_drewN | apply Kd.R_drew)); exact HO_5.out) hb); have n1_ := Aside0.mk (blk_below (g := gb134) (o := .cells #[.int .i64 a0_0, .int .i64 a0_1, .slice (some ad138) l0_2.length c0_2] 24 (0, 0)) (by (with_reducible repeat (first | refine blk_drewN ?_ _ | refine blk_drew ?_ | refine blk_alloc ?_ _)); exact BK134.out) hb); have n2_ := Aside0.mk (below_step (by repeat (first | (with_reducible first | exact HB.out | apply below_alloc | apply pw_below_drewN | apply below_drew1 | refine below_set ?_ GE134.out) | exact HB.out)) hb); have n3_ := Aside0.mk (hbox); have n4_ := Aside0.mk ((by rw [hg]; exact (below_size (by repeat (first | (with_reducible first | exact HB.out | apply below_alloc | apply pw_below_drewN | apply below_drew1 | refine below_set ?_ GE134.out) | exact HB.out))) : w.heap.size ≤ gb139)); have n5_ := Aside0.mk ((by rw [hg]; exact (below_size (by repeat (first | (with_reducible first | exact HB.out | apply below_alloc | apply pw_below_drewN | apply below_drew1 | refine below_set ?_ GE134.out) | exact HB.out))) : w.heap.size ≤ gb139)); have n6_ := Aside0.mk ((by rw [hg]; exact Nat.ne_of_lt (blk_lt (g := gb134) (o := .cells #[.int .i64 a0_0, .int .i64 a0_1, .slice (some ad138) l0_2.length c0_2] 24 (0, 0)) (by (with_reducible repeat (first | refine blk_drewN ?_ _ | refine blk_drew ?_ | refine blk_alloc ?_ _)); exact BK134.out)) : gb134 ≠ gb139)); have n7_ := Aside0.mk ((by rw [hg]; exact Nat.ne_of_gt (blk_lt (g := gb134) (o := .cells #[.int .i64 a0_0, .int .i64 a0_1, .slice (some ad138) l0_2.length c0_2] 24 (0, 0)) (by (with_reducible repeat (first | refine blk_drewN ?_ _ | refine blk_drew ?_ | refine blk_alloc ?_ _)); exact BK134.out)) : gb139 ≠ gb134)); clear HO_5; clear BK134; clear HB; have HO_5 := n0_; have BK134 := n1_; have HB := n2_; have BK139 := n3_; have GW139 := n4_; have GE139 := n5_; have NB134_139 := n6_; have NB139_134 := n7_; clear n0_ n1_ n2_ n3_ n4_ n5_ n6_ n7_; clear hb hbox hg; have hnb11 := NB139_134.out; have hnc11 := NB134_139.out; have hcz12_0 : w10.cell? ⟨gb139, 0, none⟩ = some (.int .i64 0) := (blk_cell BK139.out 0).trans rfl; have hcz12_1 : w10.cell? ⟨gb139, 1, none⟩ = some (.int .i64 0) := (blk_cell BK139.out 1).trans rfl; have hcz12_2 : w10.cell? ⟨gb139, 2, none⟩ = some (.bool false) := (blk_cell BK139.out 2).trans rfl; have hcz12_3 : w10.cell? ⟨gb139, 3, none⟩ = some (.slice none 0 0) := (blk_cell BK139.out 3).trans rfl; have hfz12_0 := blk_frozen BK139.out 0; have hfz12_1 := blk_frozen BK139.out 1; have hfz12_2 := blk_frozen BK139.out 2; have hfz12_3 := blk_frozen BK139.out 3))
          go_loopg [8] k1 (fun kq v8 w' => ∃ (x5_2 : List Int) (x8_2 : Int), v8 = .int .i64 x8_2 ∧ Aside0 (laminaref17_Apply.l1 kq x5_2 x6_1 x8_2 a0_0 a0_1 l0_2 ((rd_T65 l0_2 x6_1).f0) ((rd_T65 l0_2 x6_1).f1) ((rd_T65 l0_2 x6_1).f2) ((rd_T65 l0_2 x6_1).f3) = some r) ∧ Aside0 (kq ≤ k1) ∧ Aside0 (Kd.R (Kd.int .u8) 5 w' w.heap.size (fun _ => True) v136 x5_2) ∧ Aside0 (w'.heap[gb134]? = some (.cells #[.int .i64 a0_0, .int .i64 a0_1, (.slice (some ad138) l0_2.length c0_2)] 24 (0, 0))) ∧ Aside0 (w'.heap[gb139]? = some (.cells #[.int .i64 ((rd_T65 l0_2 x6_1).f0), .int .i64 ((rd_T65 l0_2 x6_1).f1), .bool ((rd_T65 l0_2 x6_1).f2), (.slice A138_3 ((rd_T65 l0_2 x6_1).f3).length c138_3)] 65 (0, 0))) ∧ Aside0 (Below w.heap.size w w'))
          case atStart => exact ⟨(x5_1), (0), (by first | rfl | (simp; done) | (simp [*]; done)), H', ⟨Nat.le_refl _⟩, ⟨by (with_reducible repeat (first | apply Kd.R_alloc | apply Kd.R_drewN | apply Kd.R_drew)); exact Kd.R_mono (Kd.R_far (p := ⟨gb139, 3, none⟩) (Kd.R_far (p := ⟨gb139, 2, none⟩) (Kd.R_far (p := ⟨gb139, 1, none⟩) (Kd.R_far (p := ⟨gb139, 0, none⟩) (Kd.R_types HO_5.out BK139.out (by decide)) (fun _ hk => hk.2) (.int .i64 ((rd_T65 l0_2 x6_1).f0))) (fun _ hk => hk.2) (.int .i64 ((rd_T65 l0_2 x6_1).f1))) (fun _ hk => hk.2) (.bool ((rd_T65 l0_2 x6_1).f2))) (fun _ hk => hk.2) (.slice A138_3 ((rd_T65 l0_2 x6_1).f3).length c138_3)) (fun _ hk => trivial)⟩, ⟨by (with_reducible repeat (first | refine blk_drewN ?_ _ | refine blk_drew ?_ | refine blk_alloc ?_ _)); refine blk_far ?_ NB134_139.out _; (with_reducible repeat (first | refine blk_drewN ?_ _ | refine blk_drew ?_ | refine blk_alloc ?_ _)); refine blk_far ?_ NB134_139.out _; (with_reducible repeat (first | refine blk_drewN ?_ _ | refine blk_drew ?_ | refine blk_alloc ?_ _)); refine blk_far ?_ NB134_139.out _; (with_reducible repeat (first | refine blk_drewN ?_ _ | refine blk_drew ?_ | refine blk_alloc ?_ _)); refine blk_far ?_ NB134_139.out _; (with_reducible repeat (first | refine blk_drewN ?_ _ | refine blk_drew ?_ | refine blk_alloc ?_ _)); exact BK134.out⟩, ⟨by (with_reducible repeat (first | refine blk_drewN ?_ _ | refine blk_drew ?_ | refine blk_alloc ?_ _)); refine blk_put (cs := #[.int .i64 ((rd_T65 l0_2 x6_1).f0), .int .i64 ((rd_T65 l0_2 x6_1).f1), .bool ((rd_T65 l0_2 x6_1).f2), .slice none 0 0]) ?_ 3 _ rfl; (with_reducible repeat (first | refine blk_drewN ?_ _ | refine blk_drew ?_ | refine blk_alloc ?_ _)); refine blk_put (cs := #[.int .i64 ((rd_T65 l0_2 x6_1).f0), .int .i64 ((rd_T65 l0_2 x6_1).f1), .bool false, .slice none 0 0]) ?_ 2 _ rfl; (with_reducible repeat (first | refine blk_drewN ?_ _ | refine blk_drew ?_ | refine blk_alloc ?_ _)); refine blk_put (cs := #[.int .i64 ((rd_T65 l0_2 x6_1).f0), .int .i64 0, .bool false, .slice none 0 0]) ?_ 1 _ rfl; (with_reducible repeat (first | refine blk_drewN ?_ _ | refine blk_drew ?_ | refine blk_alloc ?_ _)); refine blk_put (cs := #[.int .i64 0, .int .i64 0, .bool false, .slice none 0 0]) ?_ 0 _ rfl; (with_reducible repeat (first | refine blk_drewN ?_ _ | refine blk_drew ?_ | refine blk_alloc ?_ _)); exact BK139.out⟩, ⟨by repeat (first | (with_reducible first | exact HB.out | apply below_alloc | apply pw_below_drewN | apply below_drew1 | refine below_set ?_ GE134.out | refine below_set ?_ GE139.out) | exact HB.out)⟩⟩
          case round =>
            clear H'
            try clear c1
            try clear p1
            try clear q1
            try clear hx1
            try clear p2
            try clear c3
            try clear c7
            try clear c7b0
            try clear c8
            try clear c8b0
            try clear c11
            try clear hcz12_0
            try clear hcz12_1
            try clear hcz12_2
            try clear hcz12_3
            try clear hcz5_0
            try clear hcz5_1
            try clear hcz5_2
            try clear hcz9_0
            try clear hcz9_1
            try clear hcz9_2
            try clear hfz12_0
            try clear hfz12_1
            try clear hfz12_2
            try clear hfz12_3
            try clear hfz5_0
            try clear hfz5_1
            try clear hfz5_2
            try clear hfz9_0
            try clear hfz9_1
            try clear hfz9_2
            try clear hx138_0
            try clear hx138_1
            try clear hx138_2
            try clear hx138_3
            try clear p138
            try clear p2
            try clear q138
            obtain ⟨x5_2, x8_2, rfl, HA, HK2, HO_5, BK134, BK139, HB⟩ := hrel
            cases gk with
            | zero => exact absurd HA.out (by simp [laminaref17_Apply.l1])
            | succ k2 =>
              have H := HA.out
              clear HA
              simp only [laminaref17_Apply.l1] at H
              by_cases c13 : x8_2 < ((rd_T65 l0_2 x6_1).f1)
              · rw [if_pos c13] at H
                have c13b0 : decide (x8_2 < ((rd_T65 l0_2 x6_1).f1)) = true := decide_eq_true c13
                clear c13
                by_cases c14 : ((rd_T65 l0_2 x6_1).f2) = true
                · rw [if_pos c14] at H
                  have c14b0 : ((rd_T65 l0_2 x6_1).f2) = true := c14
                  clear c14
                  obtain ⟨ji15, hji15⟩ : ∃ j_ : Int, (wrap64 (((rd_T65 l0_2 x6_1).f0) + x8_2)) = j_ := ⟨_, rfl⟩
                  replace H : (if 0 ≤ (ji15) then (if (ji15) < (x5_2.length : Int) then (laminaref17_Apply.l1 k2 (x5_2.set ((ji15) : Int).toNat 0) x6_1 (wrap64 (x8_2 + 1)) a0_0 a0_1 l0_2 ((rd_T65 l0_2 x6_1).f0) ((rd_T65 l0_2 x6_1).f1) ((rd_T65 l0_2 x6_1).f2) ((rd_T65 l0_2 x6_1).f3)) else (none)) else (none)) = some r := by first | (rw [hji15] at H; exact H) | (simp only [hji15] at H ⊢; exact H)
                  have hji15w : (IntKind.i64.wrap (((rd_T65 l0_2 x6_1).f0) + x8_2)) = ji15 := (i64_w _).trans hji15
                  by_cases c16 : 0 ≤ (ji15)
                  · rw [if_pos c16] at H
                    have c16b0 : decide (0 ≤ (ji15)) = true := decide_eq_true c16
                    clear c16
                    by_cases c17 : (ji15) < (x5_2.length : Int)
                    · rw [if_pos c17] at H
                      have c17b0 : decide ((ji15) < (x5_2.length : Int)) = true := decide_eq_true c17
                      clear c17
                      obtain ⟨y140, hy140⟩ : ∃ y_ : List Int, y_ = (x5_2.set ((ji15) : Int).toNat 0) := ⟨_, rfl⟩
                      replace H : (laminaref17_Apply.l1 k2 y140 x6_1 (wrap64 (x8_2 + 1)) a0_0 a0_1 l0_2 ((rd_T65 l0_2 x6_1).f0) ((rd_T65 l0_2 x6_1).f1) ((rd_T65 l0_2 x6_1).f2) ((rd_T65 l0_2 x6_1).f3)) = some r := by first | (rw [hy140]; with_reducible exact H) | (have H2_ := (Option.bind_some _ _).symm.trans H; rw [hy140]; with_reducible exact H2_) | (have H2_ := (Option.bind_some _ _).symm.trans H; with_reducible exact H2_) | with_reducible exact H | (rw [hy140]; exact H) | exact H
                      have Ny140 := Aside0.mk hy140
                      clear hy140
                      have H' := Aside0.mk H
                      clear H
                      have hnb19 := NB139_134.out
                      have hnc19 := NB134_139.out
                      have hcz20_0 : wr.cell? ⟨gb139, 0, none⟩ = some (.int .i64 ((rd_T65 l0_2 x6_1).f0)) := (blk_cell BK139.out 0).trans rfl
                      have hcz20_1 : wr.cell? ⟨gb139, 1, none⟩ = some (.int .i64 ((rd_T65 l0_2 x6_1).f1)) := (blk_cell BK139.out 1).trans rfl
                      have hcz20_2 : wr.cell? ⟨gb139, 2, none⟩ = some (.bool ((rd_T65 l0_2 x6_1).f2)) := (blk_cell BK139.out 2).trans rfl
                      have hcz20_3 : wr.cell? ⟨gb139, 3, none⟩ = some (.slice A138_3 ((rd_T65 l0_2 x6_1).f3).length c138_3) := (blk_cell BK139.out 3).trans rfl
                      have hfz20_0 := blk_frozen BK139.out 0
                      have hfz20_1 := blk_frozen BK139.out 1
                      have hfz20_2 := blk_frozen BK139.out 2
                      have hfz20_3 := blk_frozen BK139.out 3
                      have p18 : 0 ≤ ((ji15) : Int) := of_decide_eq_true (by first | (with_reducible assumption) | assumption)
                      have q18 : ((ji15) : Int) < ((x5_2.length : Int) : Int) := of_decide_eq_true (by first | (with_reducible assumption) | assumption)
                      obtain ⟨go18, co18, eo18, gb18, gl18, cl18, HG18⟩ := Kd.R_form HO_5.out (by omega)
                      (first | cases eo18 | (injection eo18 with ea_ en_ ec_; (first | subst ea_ | (injection ea_ with ea_; subst ea_)); subst ec_; clear en_))
                      have GB18 := Aside0.mk gb18
                      have GG18 := Aside0.mk HG18
                      clear gb18 gl18 HG18
                      obtain ⟨hx18_0, hf18_0⟩ := Kd.R_celln 0 HO_5.out ((ji15) : Int) p18 q18
                      replace p18 := eq_true p18
                      replace q18 := eq_true q18
                      have HP21 := Kd.R_putg HO_5.out ((ji15) : Int) 0
                      go_wp2_with (first | ((with_reducible refine gate_store (t := 5) (p := 46) rfl ?_); refine store_event (t := 5) (p := 46) (v := ?vo_w22) (w1 := (wr.setCell ⟨go18, ((ji15) : Int).toNat, none⟩ (.int .u8 0))) ?hg ?ho ?hn ?hr ?_; (case ho => rfl); (case hg => rfl); (case hn => rfl); (case hr => first | (go_simp; done) | (go_simp; rfl)); intro w22 hw; have hg : wr.grownBy w22 (some go18) := (by rw [hw]; exact HP21.2); have hp_ : Kd.R (Kd.int .u8) 5 w22 w.heap.size (fun _ => True) (.slice (some ⟨go18, 0, none⟩) x5_2.length co18) y140 := (by rw [hw, Ny140.out]; exact HP21.1); clear HP21; have n0_ := Aside0.mk (hp_); have n1_ := Aside0.mk (blk_grown (g := gb134) (o := .cells #[.int .i64 a0_0, .int .i64 a0_1, .slice (some ad138) l0_2.length c0_2] 24 (0, 0)) (by (with_reducible repeat (first | refine blk_drewN ?_ _ | refine blk_drew ?_ | refine blk_alloc ?_ _)); exact BK134.out) hg (Kd.R_ne HO_5.out BK134.out (by decide))); have n2_ := Aside0.mk (blk_grown (g := gb139) (o := .cells #[.int .i64 ((rd_T65 l0_2 x6_1).f0), .int .i64 ((rd_T65 l0_2 x6_1).f1), .bool ((rd_T65 l0_2 x6_1).f2), .slice A138_3 ((rd_T65 l0_2 x6_1).f3).length c138_3] 65 (0, 0)) (by (with_reducible repeat (first | refine blk_drewN ?_ _ | refine blk_drew ?_ | refine blk_alloc ?_ _)); exact BK139.out) hg (Kd.R_ne HO_5.out BK139.out (by decide))); have n3_ := Aside0.mk ((by rw [hw]; exact below_set (HB.out) GB18.out : Below w.heap.size w w22)); clear HO_5; clear BK134; clear BK139; clear HB; have HO_5 := n0_; have BK134 := n1_; have BK139 := n2_; have HB := n3_; clear n0_ n1_ n2_ n3_; clear hg hw hp_))
                      go_roundg k2
                      case measure => have := HK1.out; have := HK2.out; omega
                      case rel => exact ⟨(y140), (wrap64 (x8_2 + 1)), (by first | rfl | (simp; done) | (simp [*]; done)), H', ⟨by have := HK1.out; have := HK2.out; omega⟩, ⟨by (with_reducible repeat (first | apply Kd.R_alloc | apply Kd.R_drewN | apply Kd.R_drew)); exact HO_5.out⟩, ⟨by (with_reducible repeat (first | refine blk_drewN ?_ _ | refine blk_drew ?_ | refine blk_alloc ?_ _)); exact BK134.out⟩, ⟨by (with_reducible repeat (first | refine blk_drewN ?_ _ | refine blk_drew ?_ | refine blk_alloc ?_ _)); exact BK139.out⟩, ⟨by repeat (first | (with_reducible first | exact HB.out | apply below_alloc | apply pw_below_drewN | apply below_drew1 | refine below_set ?_ GE134.out | refine below_set ?_ GE139.out) | exact HB.out)⟩⟩
                    · rw [if_neg c17] at H
                      exact absurd H (by simp)
                  · rw [if_neg c16] at H
                    exact absurd H (by simp)
                · rw [if_neg c14] at H
                  have c14b0 : ((rd_T65 l0_2 x6_1).f2) = false := by simpa using c14
                  clear c14
                  by_cases c23 : 0 ≤ x8_2
                  · rw [if_pos c23] at H
                    have c23b0 : decide (0 ≤ x8_2) = true := decide_eq_true c23
                    clear c23
                    by_cases c24 : x8_2 < (((rd_T65 l0_2 x6_1).f3).length : Int)
                    · rw [if_pos c24] at H
                      have c24b0 : decide (x8_2 < (((rd_T65 l0_2 x6_1).f3).length : Int)) = true := decide_eq_true c24
                      clear c24
                      obtain ⟨ji25, hji25⟩ : ∃ j_ : Int, (wrap64 (((rd_T65 l0_2 x6_1).f0) + x8_2)) = j_ := ⟨_, rfl⟩
                      replace H : (if 0 ≤ (ji25) then (if (ji25) < (x5_2.length : Int) then (laminaref17_Apply.l1 k2 (x5_2.set ((ji25) : Int).toNat (rd ((rd_T65 l0_2 x6_1).f3) x8_2)) x6_1 (wrap64 (x8_2 + 1)) a0_0 a0_1 l0_2 ((rd_T65 l0_2 x6_1).f0) ((rd_T65 l0_2 x6_1).f1) ((rd_T65 l0_2 x6_1).f2) ((rd_T65 l0_2 x6_1).f3)) else (none)) else (none)) = some r := by first | (rw [hji25] at H; exact H) | (simp only [hji25] at H ⊢; exact H)
                      have hji25w : (IntKind.i64.wrap (((rd_T65 l0_2 x6_1).f0) + x8_2)) = ji25 := (i64_w _).trans hji25
                      by_cases c26 : 0 ≤ (ji25)
                      · rw [if_pos c26] at H
                        have c26b0 : decide (0 ≤ (ji25)) = true := decide_eq_true c26
                        clear c26
                        by_cases c27 : (ji25) < (x5_2.length : Int)
                        · rw [if_pos c27] at H
                          have c27b0 : decide ((ji25) < (x5_2.length : Int)) = true := decide_eq_true c27
                          clear c27
                          obtain ⟨y142, hy142⟩ : ∃ y_ : List Int, y_ = (x5_2.set ((ji25) : Int).toNat (rd ((rd_T65 l0_2 x6_1).f3) x8_2)) := ⟨_, rfl⟩
                          replace H : (laminaref17_Apply.l1 k2 y142 x6_1 (wrap64 (x8_2 + 1)) a0_0 a0_1 l0_2 ((rd_T65 l0_2 x6_1).f0) ((rd_T65 l0_2 x6_1).f1) ((rd_T65 l0_2 x6_1).f2) ((rd_T65 l0_2 x6_1).f3)) = some r := by first | (rw [hy142]; with_reducible exact H) | (have H2_ := (Option.bind_some _ _).symm.trans H; rw [hy142]; with_reducible exact H2_) | (have H2_ := (Option.bind_some _ _).symm.trans H; with_reducible exact H2_) | with_reducible exact H | (rw [hy142]; exact H) | exact H
                          have Ny142 := Aside0.mk hy142
                          clear hy142
                          have H' := Aside0.mk H
                          clear H
                          have hnb29 := NB139_134.out
                          have hnc29 := NB134_139.out
                          have hcz30_0 : wr.cell? ⟨gb139, 0, none⟩ = some (.int .i64 ((rd_T65 l0_2 x6_1).f0)) := (blk_cell BK139.out 0).trans rfl
                          have hcz30_1 : wr.cell? ⟨gb139, 1, none⟩ = some (.int .i64 ((rd_T65 l0_2 x6_1).f1)) := (blk_cell BK139.out 1).trans rfl
                          have hcz30_2 : wr.cell? ⟨gb139, 2, none⟩ = some (.bool ((rd_T65 l0_2 x6_1).f2)) := (blk_cell BK139.out 2).trans rfl
                          have hcz30_3 : wr.cell? ⟨gb139, 3, none⟩ = some (.slice A138_3 ((rd_T65 l0_2 x6_1).f3).length c138_3) := (blk_cell BK139.out 3).trans rfl
                          have hfz30_0 := blk_frozen BK139.out 0
                          have hfz30_1 := blk_frozen BK139.out 1
                          have hfz30_2 := blk_frozen BK139.out 2
                          have hfz30_3 := blk_frozen BK139.out 3
                          have p141 : 0 ≤ (x8_2 : Int) := of_decide_eq_true (by first | (with_reducible assumption) | assumption)
                          have q141 : x8_2 < (((rd_T65 l0_2 x6_1).f3).length : Int) := of_decide_eq_true (by first | (with_reducible assumption) | assumption)
                          obtain ⟨ad141, e141, hx141_0⟩ := Kd.at_int HR138_3.out x8_2 p141 q141
                          cases e141
                          replace hx141_0 := (HB.out.cell (World.block_lt_of_cell? w _ hx141_0)).trans hx141_0
                          replace p141 := eq_true p141
                          replace q141 := eq_true q141
                          have p28 : 0 ≤ ((ji25) : Int) := of_decide_eq_true (by first | (with_reducible assumption) | assumption)
                          have q28 : ((ji25) : Int) < ((x5_2.length : Int) : Int) := of_decide_eq_true (by first | (with_reducible assumption) | assumption)
                          obtain ⟨go28, co28, eo28, gb28, gl28, cl28, HG28⟩ := Kd.R_form HO_5.out (by omega)
                          (first | cases eo28 | (injection eo28 with ea_ en_ ec_; (first | subst ea_ | (injection ea_ with ea_; subst ea_)); subst ec_; clear en_))
                          have GB28 := Aside0.mk gb28
                          have GG28 := Aside0.mk HG28
                          clear gb28 gl28 HG28
                          obtain ⟨hx28_0, hf28_0⟩ := Kd.R_celln 0 HO_5.out ((ji25) : Int) p28 q28
                          replace p28 := eq_true p28
                          replace q28 := eq_true q28
                          have HP31 := Kd.R_putg HO_5.out ((ji25) : Int) (rd ((rd_T65 l0_2 x6_1).f3) x8_2)
                          go_wp2_with (first | ((with_reducible refine gate_store (t := 5) (p := 46) rfl ?_); refine store_event (t := 5) (p := 46) (v := ?vo_w32) (w1 := (wr.setCell ⟨go28, ((ji25) : Int).toNat, none⟩ (.int .u8 (rd ((rd_T65 l0_2 x6_1).f3) x8_2)))) ?hg ?ho ?hn ?hr ?_; (case ho => rfl); (case hg => rfl); (case hn => rfl); (case hr => first | (go_simp; done) | (go_simp; rfl)); intro w32 hw; have hg : wr.grownBy w32 (some go28) := (by rw [hw]; exact HP31.2); have hp_ : Kd.R (Kd.int .u8) 5 w32 w.heap.size (fun _ => True) (.slice (some ⟨go28, 0, none⟩) x5_2.length co28) y142 := (by rw [hw, Ny142.out]; exact HP31.1); clear HP31; have n0_ := Aside0.mk (hp_); have n1_ := Aside0.mk (blk_grown (g := gb134) (o := .cells #[.int .i64 a0_0, .int .i64 a0_1, .slice (some ad138) l0_2.length c0_2] 24 (0, 0)) (by (with_reducible repeat (first | refine blk_drewN ?_ _ | refine blk_drew ?_ | refine blk_alloc ?_ _)); exact BK134.out) hg (Kd.R_ne HO_5.out BK134.out (by decide))); have n2_ := Aside0.mk (blk_grown (g := gb139) (o := .cells #[.int .i64 ((rd_T65 l0_2 x6_1).f0), .int .i64 ((rd_T65 l0_2 x6_1).f1), .bool ((rd_T65 l0_2 x6_1).f2), .slice (some ad141) ((rd_T65 l0_2 x6_1).f3).length c138_3] 65 (0, 0)) (by (with_reducible repeat (first | refine blk_drewN ?_ _ | refine blk_drew ?_ | refine blk_alloc ?_ _)); exact BK139.out) hg (Kd.R_ne HO_5.out BK139.out (by decide))); have n3_ := Aside0.mk ((by rw [hw]; exact below_set (HB.out) GB28.out : Below w.heap.size w w32)); clear HO_5; clear BK134; clear BK139; clear HB; have HO_5 := n0_; have BK134 := n1_; have BK139 := n2_; have HB := n3_; clear n0_ n1_ n2_ n3_; clear hg hw hp_))
                          go_roundg k2
                          case measure => have := HK1.out; have := HK2.out; omega
                          case rel => exact ⟨(y142), (wrap64 (x8_2 + 1)), (by first | rfl | (simp; done) | (simp [*]; done)), H', ⟨by have := HK1.out; have := HK2.out; omega⟩, ⟨by (with_reducible repeat (first | apply Kd.R_alloc | apply Kd.R_drewN | apply Kd.R_drew)); exact HO_5.out⟩, ⟨by (with_reducible repeat (first | refine blk_drewN ?_ _ | refine blk_drew ?_ | refine blk_alloc ?_ _)); exact BK134.out⟩, ⟨by (with_reducible repeat (first | refine blk_drewN ?_ _ | refine blk_drew ?_ | refine blk_alloc ?_ _)); exact BK139.out⟩, ⟨by repeat (first | (with_reducible first | exact HB.out | apply below_alloc | apply pw_below_drewN | apply below_drew1 | refine below_set ?_ GE134.out | refine below_set ?_ GE139.out) | exact HB.out)⟩⟩
                        · rw [if_neg c27] at H
                          exact absurd H (by simp)
                      · rw [if_neg c26] at H
                        exact absurd H (by simp)
                    · rw [if_neg c24] at H
                      exact absurd H (by simp)
                  · rw [if_neg c23] at H
                    exact absurd H (by simp)
              · rw [if_neg c13] at H
                have c13b0 : decide (x8_2 < ((rd_T65 l0_2 x6_1).f1)) = false := decide_eq_false c13
                clear c13
                have H' := Aside0.mk H
                clear H
                have hnb33 := NB139_134.out
                have hnc33 := NB134_139.out
                have hcz34_0 : wr.cell? ⟨gb139, 0, none⟩ = some (.int .i64 ((rd_T65 l0_2 x6_1).f0)) := (blk_cell BK139.out 0).trans rfl
                have hcz34_1 : wr.cell? ⟨gb139, 1, none⟩ = some (.int .i64 ((rd_T65 l0_2 x6_1).f1)) := (blk_cell BK139.out 1).trans rfl
                have hcz34_2 : wr.cell? ⟨gb139, 2, none⟩ = some (.bool ((rd_T65 l0_2 x6_1).f2)) := (blk_cell BK139.out 2).trans rfl
                have hcz34_3 : wr.cell? ⟨gb139, 3, none⟩ = some (.slice A138_3 ((rd_T65 l0_2 x6_1).f3).length c138_3) := (blk_cell BK139.out 3).trans rfl
                have hfz34_0 := blk_frozen BK139.out 0
                have hfz34_1 := blk_frozen BK139.out 1
                have hfz34_2 := blk_frozen BK139.out 2
                have hfz34_3 := blk_frozen BK139.out 3
                go_wp2
                go_roundg k2
                case measure => have := HK1.out; have := HK2.out; omega
                case rel => exact ⟨(x5_2), (wrap64 (x6_1 + 1)), (by first | rfl | (simp; done) | (simp [*]; done)), H', ⟨by have := HK1.out; have := HK2.out; omega⟩, ⟨by (with_reducible repeat (first | apply Kd.R_alloc | apply Kd.R_drewN | apply Kd.R_drew)); exact HO_5.out⟩, ⟨by (with_reducible repeat (first | refine blk_drewN ?_ _ | refine blk_drew ?_ | refine blk_alloc ?_ _)); exact BK134.out⟩, ⟨by repeat (first | (with_reducible first | exact HB.out | apply below_alloc | apply pw_below_drewN | apply below_drew1 | refine below_set ?_ GE134.out | refine below_set ?_ GE139.out) | exact HB.out)⟩⟩
        · rw [if_neg c8] at H
          exact absurd H (by simp)
      · rw [if_neg c7] at H
        have c7b0 : decide (x6_1 < (l0_2.length : Int)) = false := decide_eq_false c7
        clear c7
        obtain rfl := Option.some.inj H
        have hcz35_0 : wr.cell? ⟨gb134, 0, none⟩ = some (.int .i64 a0_0) := (blk_cell BK134.out 0).trans rfl
        have hcz35_1 : wr.cell? ⟨gb134, 1, none⟩ = some (.int .i64 a0_1) := (blk_cell BK134.out 1).trans rfl
        have hcz35_2 : wr.cell? ⟨gb134, 2, none⟩ = some (.slice A0_2 l0_2.length c0_2) := (blk_cell BK134.out 2).trans rfl
        have hfz35_0 := blk_frozen BK134.out 0
        have hfz35_1 := blk_frozen BK134.out 1
        have hfz35_2 := blk_frozen BK134.out 2
        go_wp2
        go_ret
        exact ⟨_, by first | rfl | (simp [errW_none, errW_some] <;> rfl) | (simp [*, errW_none, errW_some] <;> rfl), by (with_reducible repeat (first | apply Kd.R_alloc | apply Kd.R_drewN | apply Kd.R_drew)); exact HO_5.out, by repeat (first | (with_reducible first | exact HB.out | apply below_alloc | apply pw_below_drewN | apply below_drew1 | refine below_set ?_ GE134.out) | exact HB.out)⟩

/-! ### wire_Writer_add: function 61 -/
theorem wire_Writer_add.calls (S : Nat → Prop) (z : Bool) (h : Value) (l : List Int) (A : Option Addr) (c : Nat) (bs : List Int) (w : World) (hw : Wr w S z h l) (hr : Kd.C (Kd.int .u8) w A bs.length bs) (hl : l.length + bs.length ≤ 140737488355328) :
    Calls Try.prog 61 #[h, .slice A bs.length c] w fun e w' => e = .returned (.tuple #[]) ∧ WrTo w w' S z h (app z l bs) := by
  rcases hw with ⟨rfl, rfl, rfl⟩ | ⟨rfl, p, v, rfl, hp, hb, hR⟩
  · clear hr
    go_enter Try.func61, Try.ntmps61
    go_wp2
    go_end0
    exact ⟨rfl, WrTo.refl (.inl ⟨rfl, rfl, rfl⟩)⟩
  · have hcell : w.cell? ⟨p, 0, none⟩ = some v := by rw [cell_of hb]; rfl
    have hplt := blk_size hb
    have HB := Aside0.mk hb
    have HR := Aside0.mk hr
    have HO := Aside0.mk (Kd.R_mono hR (fun k hk => (.inl hk : S k ∨ w.heap.size ≤ k)))
    have HO0 := Aside0.mk hR
    clear hb hr hR
    go_enter Try.func61, Try.ntmps61
    go_wp2_with (((with_reducible refine gate_builtin (b := .append) (xs := #[.tmp 10, .tmp 11]) rfl ?_); at_builtin; refine Kd.R_append_rows (Kd.int .u8) (w0 := w) 0 rfl (.tmp 10) (.tmp 11) 25 5 (.int .u8 0) 1 rfl Try.underlying25 info5 rfl (by decide) (by omega) v l bs _ _ _ (fun k => S k ∨ w.heap.size ≤ k) (fun _ => False) rfl rfl HO.out HR.out (fun _ _ h => h) (fun _ h => h.elim) (fun _ hk => .inr hk) (Below.refl _ _) (Nat.zero_le _) ?aL ?_; (case aL => omega); intro v1 w1 ho hb1 hg hat; clear hb1 hat; obtain ⟨A1, c1, rfl, -⟩ := Kd.R_reads ho; have HO1 := Aside0.mk ho; have HG := Aside0.mk hg; have hcell1 : w1.cell? ⟨p, 0, none⟩ = some v := (by rw [cell_of ((hg.block p hplt (fun e => by obtain ⟨inner, hoo⟩ := Kd.R_own HO0.out; obtain ⟨cells, hc⟩ := own_typed hoo p e.symm; rw [HB.out] at hc; injection hc with hc; injection hc with _ h2 _; exact absurd h2 (by decide))).trans HB.out)]; rfl); have hfz1 : w1.frozen? ⟨p, 0, none⟩ = false := (by rw [frozen_of ((hg.block p hplt (fun e => by obtain ⟨inner, hoo⟩ := Kd.R_own HO0.out; obtain ⟨cells, hc⟩ := own_typed hoo p e.symm; rw [HB.out] at hc; injection hc with hc; injection hc with _ h2 _; exact absurd h2 (by decide))).trans HB.out)]); clear ho hg))
    go_end0
    exact ⟨rfl, by have := wr_put hp HB.out HO0.out HO1.out HG.out; simp only [List.length_append] at this; exact this⟩

-- AUX numL
/-- A number's bytes. -/
def numL (n : Int) : List Int := (List.range 8).map fun i => n / 2 ^ (8 * i) % 256
theorem numL_len (n : Int) : (numL n).length = 8 := by simp [numL]
def numA (n : Int) (k : Nat) : Array Value := ((List.range 8).map fun i => if i < k then .int .u8 (n / 2 ^ (8 * i) % 256) else .int .u8 0).toArray
theorem numA_at (n : Int) (k : Nat) (h : k < 8) : (numA n k)[k]? = some (.int .u8 0) := by simp [numA, h]
theorem numA_set (n : Int) (k : Nat) (h : k < 8) (x : Int) (hx : x = n / 2 ^ (8 * k) % 256) : (numA n k).setIfInBounds k (.int .u8 x) = numA n (k + 1) := by
  subst hx
  refine Array.ext_getElem? fun i => ?_
  simp only [numA, Array.getElem?_setIfInBounds, List.getElem?_toArray, List.getElem?_map]
  by_cases e : k = i
  · subst e
    simp [h]
  · by_cases hi : i < 8
    · have : (i < k + 1) = (i < k) := by simp only [eq_iff_iff]; omega
      simp [e, hi, this]
    · simp [e, hi]
theorem numA_C (n : Int) (w : World) : Kd.C (Kd.int .u8) (w.alloc (.cells (numA n 8) 97)) (some ⟨w.heap.size, 0, none⟩) (numL n).length (numL n) :=
  C_block (Kd.int .u8) rfl (heap_alloc_new w _) (numL n) (by rw [numL_len]; omega) (fun j x hj => by
    have hlt : j < 8 := by
      rcases Nat.lt_or_ge j 8 with h | h
      · exact h
      · rw [List.getElem?_eq_none (by rw [numL_len]; exact h)] at hj; cases hj
    refine ⟨.int .u8 x, ?_, rfl⟩
    simp only [numL, List.getElem?_map, List.getElem?_range hlt, Option.map_some, Option.some.injEq] at hj
    simp [numA, hlt, hj])

/-! ### wire_Writer_Num: function 37 -/
theorem wire_Writer_Num.calls (S : Nat → Prop) (z : Bool) (h : Value) (l : List Int) (n : Int) (w : World) (hw : Wr w S z h l) (hl : l.length + 8 ≤ 140737488355328) (h1 : -9223372036854775808 ≤ n) (h2 : n ≤ 9223372036854775807) :
    Calls Try.prog 37 #[h, .int .i64 n] w fun e w' => e = .returned (.tuple #[]) ∧ WrTo w w' S z h (app z l (numL n)) := by
  have HW := Aside0.mk hw
  clear hw
  go_enter Try.func37, Try.ntmps37
  go_wp2
  go_loopw [5, 6] (fun _ v6 wr => ∃ k : Nat, k ≤ 8 ∧ v6 = .int .i64 k ∧ wr = w.alloc (.cells (numA n k) 97)) (fun _ v6 _ => 8 - (intOf v6).toNat)
  case atStart => exact ⟨0, by omega, rfl, rfl⟩
  case round =>
    obtain ⟨k, hk, rfl, rfl⟩ := hrel
    by_cases hlt : k < 8
    · have hat := numA_at n k hlt
      go_wp2
      exact ⟨⟨k + 1, by omega, by go_num, by rw [numA_set n k hlt _ (by first | rfl | (congr 1; done) | skip)]⟩, by simp [intOf]; omega⟩
    · obtain rfl : k = 8 := by omega
      go_wp2_with fail
      have hc := numA_C n w
      refine (wire_Writer_add.calls S z h l (some ⟨w.heap.size, 0, none⟩) 8 (numL n) _ (HW.out.below (below_alloc (Below.refl _ _) _)) hc (by rw [numL_len]; exact hl)).mono ?_
      rintro e w1 ⟨rfl, hx⟩
      go_wp2
      go_end0
      exact ⟨rfl, hx.late (below_alloc (Below.refl _ _) _)⟩

/-! ### wire_sized_string: function 60 -/
theorem wire_sized_string.calls (S : Nat → Prop) (z : Bool) (h : Value) (l : List Int) (s : ByteArray) (w : World) (hw : Wr w S z h l) (hl : l.length + 8 + s.size ≤ 140737488355328) :
    Calls Try.prog 60 #[h, .string s] w fun e w' => e = .returned (.tuple #[]) ∧ WrTo w w' S z h (app z l (numL s.size ++ bytesOf s)) := by
  have HW := Aside0.mk hw
  have kb := fun W => print_bytes (P := Try.prog) 9 25 5 Try.underlying9 Try.underlying25 Try.underlying5 s W
  have hal := app_len z l (numL s.size)
  rw [numL_len] at hal
  have HAL := Aside0.mk hal
  have hbl := bytesOf_length s
  have HBL := Aside0.mk hbl
  clear hw hal hbl
  go_enter Try.func60, Try.ntmps60
  go_wp2_with fail
  refine (wire_Writer_Num.calls S z h l s.size _ HW.out (by omega) (by omega) (by omega)).mono ?_
  rintro e w1 ⟨rfl, hx⟩
  have HX := Aside0.mk hx
  clear hx
  go_wp2_with fail
  have hbb := bytes_below (Below.refl w1.heap.size w1) (Nat.le_refl _) 5 s
  have hrd : Kd.C (Kd.int .u8) (Lib.bytesWorld w1 5 s) (some ⟨w1.heap.size, 0, none⟩) (bytesOf s).length (bytesOf s) := by
    obtain ⟨q1, q2, q3⟩ := bytes_reads w1 5 s (by omega)
    rw [HBL.out]
    refine ⟨q1, q2, fun hp => ?_⟩
    obtain ⟨ad, e, hc⟩ := q3 hp
    have := C_mk (k := .u8) (w := Lib.bytesWorld w1 5 s) (A := some ⟨w1.heap.size, 0, none⟩) (l := bytesOf s) (by omega) (fun _ => ⟨ad, e, fun j hj => by rw [hc j (by omega)]; simp [rd]⟩)
    exact this.2.2 (by omega)
  have ha := wire_Writer_add.calls _ z h _ (some ⟨w1.heap.size, 0, none⟩) (grownCap w1 s.size 0 5) (bytesOf s) _ (HX.out.wr.below hbb) hrd (by have := HAL.out; have := HBL.out; omega)
  rw [HBL.out] at ha
  refine ha.mono ?_
  rintro e w2 ⟨rfl, hy⟩
  go_wp2
  go_end0
  rw [app_app] at hy
  exact ⟨rfl, HX.out.then_ (hy.late hbb)⟩

-- AUX numsL
def numsL (ns : List Int) : List Int := ns.flatMap numL
theorem numsL_len (ns : List Int) : (numsL ns).length = 8 * ns.length := by
  induction ns with
  | nil => rfl
  | cons a t ih => simp only [numsL, List.flatMap_cons, List.length_append, numL_len, List.length_cons]; have := ih; unfold numsL at this; omega
theorem numsL_snoc (ns : List Int) (k : Nat) (h : k < ns.length) : numsL (ns.take (k + 1)) = numsL (ns.take k) ++ numL (rd ns k) := by
  unfold numsL
  rw [List.take_succ_eq_append_getElem h, List.flatMap_append]
  simp [rd, h]

/-! ### wire_Writer_Text: function 36 -/
theorem wire_Writer_Text.calls (S : Nat → Prop) (z : Bool) (h : Value) (l : List Int) (s : ByteArray) (w : World) (hw : Wr w S z h l) (hl : l.length + 8 + s.size ≤ 140737488355328) :
    Calls Try.prog 36 #[h, .string s] w fun e w' => e = .returned (.tuple #[]) ∧ WrTo w w' S z h (app z l (numL s.size ++ bytesOf s)) := by
  have HW := Aside0.mk hw
  clear hw
  go_enter Try.func36, Try.ntmps36
  go_wp2_with fail
  refine (wire_sized_string.calls S z h l s _ HW.out hl).mono ?_
  rintro e w1 ⟨rfl, hx⟩
  go_wp2
  go_end0
  exact ⟨rfl, hx⟩

/-! ### wire_Writer_Flag: function 38 -/
theorem wire_Writer_Flag.calls (S : Nat → Prop) (z : Bool) (h : Value) (l : List Int) (b : Bool) (w : World) (hw : Wr w S z h l) (hl : l.length + 1 ≤ 140737488355328) :
    Calls Try.prog 38 #[h, .bool b] w fun e w' => e = .returned (.tuple #[]) ∧ WrTo w w' S z h (app z l ([if b = true then 1 else 0])) := by
  have HW := Aside0.mk hw
  clear hw
  cases b
  all_goals
    go_enter Try.func38, Try.ntmps38
    go_wp2_with fail
  · have hc := C_lit w [0] (by simp) (0, 0)
    refine (wire_Writer_add.calls S z h l (some ⟨w.heap.size, 0, none⟩) 1 [0] _ (HW.out.below (below_alloc (Below.refl _ _) _)) hc (by simpa using hl)).mono ?_
    rintro e w1 ⟨rfl, hx⟩
    go_wp2
    go_end0
    exact ⟨rfl, hx.late (below_alloc (Below.refl _ _) _)⟩
  · have hc := C_lit w [1] (by simp) (0, 0)
    refine (wire_Writer_add.calls S z h l (some ⟨w.heap.size, 0, none⟩) 1 [1] _ (HW.out.below (below_alloc (Below.refl _ _) _)) hc (by simpa using hl)).mono ?_
    rintro e w1 ⟨rfl, hx⟩
    go_wp2
    go_end0
    exact ⟨rfl, hx.late (below_alloc (Below.refl _ _) _)⟩

/-! ### wire_sized_byte: function 62 -/
theorem wire_sized_byte.calls (S : Nat → Prop) (z : Bool) (h : Value) (l : List Int) (T : Nat → Prop) (A : Option Addr) (c : Nat) (bs : List Int) (w : World) (hw : Wr w S z h l) (hr : Rb w T A bs) (hd : ∀ i, T i → ¬ S i) (hl : l.length + 8 + bs.length ≤ 140737488355328) :
    Calls Try.prog 62 #[h, .slice A bs.length c] w fun e w' => e = .returned (.tuple #[]) ∧ WrTo w w' S z h (app z l (numL bs.length ++ bs)) := by
  have HW := Aside0.mk hw
  have HR := Aside0.mk hr
  have hm := hr.row.2.1
  have hal := app_len z l (numL bs.length)
  rw [numL_len] at hal
  have HAL := Aside0.mk hal
  clear hw hr hal
  go_enter Try.func62, Try.ntmps62
  go_wp2_with fail
  refine (wire_Writer_Num.calls S z h l bs.length _ HW.out (by omega) (by omega) (by omega)).mono ?_
  rintro e w1 ⟨rfl, hx⟩
  have HX := Aside0.mk hx
  clear hx
  go_wp2_with fail
  refine (wire_Writer_add.calls _ z h _ A c bs _ HX.out.wr (HR.out.only HX.out.only hd).row (by have := HAL.out; omega)).mono ?_
  rintro e w2 ⟨rfl, hy⟩
  go_wp2
  go_end0
  rw [app_app] at hy
  exact ⟨rfl, HX.out.then_ hy⟩

/-! ### wire_Writer_Bytes: function 39 -/
theorem wire_Writer_Bytes.calls (S : Nat → Prop) (z : Bool) (h : Value) (l : List Int) (T : Nat → Prop) (A : Option Addr) (c : Nat) (bs : List Int) (w : World) (hw : Wr w S z h l) (hr : Rb w T A bs) (hd : ∀ i, T i → ¬ S i) (hl : l.length + 8 + bs.length ≤ 140737488355328) :
    Calls Try.prog 39 #[h, .slice A bs.length c] w fun e w' => e = .returned (.tuple #[]) ∧ WrTo w w' S z h (app z l (numL bs.length ++ bs)) := by
  have HW := Aside0.mk hw
  have HR := Aside0.mk hr
  clear hw hr
  go_enter Try.func39, Try.ntmps39
  go_wp2_with fail
  refine (wire_sized_byte.calls S z h l T A c bs _ HW.out HR.out hd hl).mono ?_
  rintro e w1 ⟨rfl, hx⟩
  go_wp2
  go_end0
  exact ⟨rfl, hx⟩

/-! ### wire_Writer_Byte: function 40 -/
theorem wire_Writer_Byte.calls (S : Nat → Prop) (z : Bool) (h : Value) (l : List Int) (b : Int) (w : World) (hw : Wr w S z h l) (hl : l.length + 1 ≤ 140737488355328) :
    Calls Try.prog 40 #[h, .int .u8 b] w fun e w' => e = .returned (.tuple #[]) ∧ WrTo w w' S z h (app z l ([b])) := by
  have HW := Aside0.mk hw
  clear hw
  go_enter Try.func40, Try.ntmps40
  go_wp2_with fail
  have hc := C_lit w [b] (by simp) (0, 0)
  refine (wire_Writer_add.calls S z h l (some ⟨w.heap.size, 0, none⟩) 1 [b] _ (HW.out.below (below_alloc (Below.refl _ _) _)) hc (by simpa using hl)).mono ?_
  rintro e w1 ⟨rfl, hx⟩
  go_wp2
  go_end0
  exact ⟨rfl, hx.late (below_alloc (Below.refl _ _) _)⟩

/-! ### wire_Reader_End: function 50 -/
def endE (l : List Int) (bad : Bool) : Option Int := if bad = true ∨ 0 < l.length then some 2 else none
theorem wire_Reader_End.calls (S : Nat → Prop) (h : Value) (l : List Int) (bad : Bool) (w : World) (hr : Rd w S h l bad) :
    Calls Try.prog 50 #[h] w fun e w' => e = .returned (errW (endE l bad)) ∧ w = w' := by
  rcases hr with ⟨rfl, rfl, rfl⟩ | ⟨p, A, c, rfl, x, y⟩
  · have he : errW (endE [] true) = errW (some 2) := rfl
    rw [he, errW_some]
    go_enter Try.func50, Try.ntmps50
    go_wp2
    go_ret
    exact ⟨rfl, rfl⟩
  · have h0 : w.cell? ⟨p, 0, none⟩ = some (.slice A l.length c) := by rw [cell_of x.str]; rfl
    have h1 : w.cell? ⟨p, 1, none⟩ = some (.bool bad) := by rw [cell_of x.str]; rfl
    have hm := x.row.row.2.1
    clear x y
    rcases bad with _ | _
    · by_cases hl : 0 < l.length
      · have he : errW (endE l false) = errW (some 2) := by unfold endE; rw [if_pos (.inr hl)]
        have hl2 : (0 : Int) < l.length := by omega
        rw [he, errW_some]
        clear he
        go_enter Try.func50, Try.ntmps50
        go_wp2
        go_ret
        exact ⟨rfl, rfl⟩
      · have he : errW (endE l false) = errW none := by unfold endE; rw [if_neg (by rintro (q | q); cases q; exact hl q)]
        have hl2 : ¬ (0 : Int) < l.length := by omega
        rw [he, errW_none]
        clear he
        go_enter Try.func50, Try.ntmps50
        go_wp2
        go_ret
        exact ⟨rfl, rfl⟩
    · have he : errW (endE l true) = errW (some 2) := by unfold endE; rw [if_pos (.inl rfl)]
      rw [he, errW_some]
      clear he
      go_enter Try.func50, Try.ntmps50
      go_wp2
      go_ret
      exact ⟨rfl, rfl⟩

-- AUX back
-- What is written is read back (the same texts as in law03.lean.tpl; not both in one seat).
theorem emod_step (n P : Int) (hP : 0 < P) : n % (256 * P) = n % P + n / P % 256 * P := by
  have h1 := Int.mul_ediv_add_emod n P
  have h2 := Int.mul_ediv_add_emod (n / P) 256
  have h3 := Int.emod_nonneg n (show P ≠ 0 by omega)
  have h4 := Int.emod_lt_of_pos n hP
  have h5 : 0 ≤ n / P % 256 := by omega
  have h6 : n / P % 256 ≤ 255 := by omega
  generalize n / P % 256 = r at *
  have e : n = (n % P + r * P) + 256 * P * (n / P / 256) := by
    have : P * (n / P) = P * (256 * (n / P / 256)) + P * r := by rw [← Int.mul_add, h2]
    have e2 : 256 * P * (n / P / 256) = P * (256 * (n / P / 256)) := by rw [Int.mul_comm 256 P, Int.mul_assoc]
    rw [e2, Int.mul_comm r P]
    omega
  have h7 : r * P ≤ 255 * P := Int.mul_le_mul_of_nonneg_right h6 (by omega)
  have h8 : 0 ≤ r * P := Int.mul_nonneg h5 (by omega)
  rw [e, Int.add_mul_emod_self_left, Int.emod_eq_of_lt (by omega) (by omega), ← e]
theorem sumN_num (n : Int) : ∀ k : Nat, k ≤ 8 → sumN (numL n) k = n % 2 ^ (8 * k) := by
  intro k
  induction k with
  | zero => intro _; simp [sumN]
  | succ k ih =>
    intro hk
    have hr : rd (numL n) (k : Int) = n / 2 ^ (8 * k) % 256 := by simp [rd, numL, show k < 8 by omega]
    have hp : (2 : Int) ^ (8 * (k + 1)) = 256 * 2 ^ (8 * k) := by rw [show 8 * (k + 1) = 8 + 8 * k by omega, Int.pow_add]; rfl
    rw [sumN, ih (by omega), hr, hp, emod_step n _ (Int.pow_pos (by decide))]
theorem unL_num (n : Int) (h1 : -9223372036854775808 ≤ n) (h2 : n ≤ 9223372036854775807) : unL (numL n) = n := by
  unfold unL
  rw [sumN_num n 8 (by omega), show (2 : Int) ^ (8 * 8) = 18446744073709551616 by decide]
  unfold wrap64
  omega
theorem tk_app (b r : List Int) (n : Int) (hn : n = b.length) : tkS n (b ++ r) false = some (b, r) := by
  subst hn
  unfold tkS
  rw [if_pos ⟨rfl, by omega, by simp; omega⟩, Int.toNat_natCast, List.take_left, List.drop_left]
theorem num_back (n : Int) (r : List Int) (h1 : -9223372036854775808 ≤ n) (h2 : n ≤ 9223372036854775807) : numS (numL n ++ r) false = (n, r, false) := by
  unfold numS
  rw [tk_app (numL n) r 8 (by rw [numL_len]; rfl)]
  simp only [unL_num n h1 h2]
theorem byte_back (x : Int) (r : List Int) : byteS ([x] ++ r) false = (x, r, false) := by
  unfold byteS
  rw [tk_app [x] r 1 rfl]
  rfl
theorem flag_back (b : Bool) (r : List Int) : flagS ([if b = true then 1 else 0] ++ r) false = (b, r, false) := by
  unfold flagS
  rw [byte_back]
  cases b <;> rfl
theorem bytes_back (B r : List Int) (hB : B.length ≤ 9223372036854775807) : bytesS ((numL B.length ++ B) ++ r) false = (B, r, false) := by
  unfold bytesS
  rw [List.append_assoc, num_back _ _ (by omega) (by omega)]
  simp only
  rw [tk_app B r _ rfl]

/-! ### wire_Reader_take: function 64 -/
theorem wire_Reader_take.no (S : Nat → Prop) (h : Value) (l : List Int) (bad : Bool) (n : Int) (w : World) (hr : Rd w S h l bad) (hn : tkS n l bad = none) :
    Calls Try.prog 64 #[h, .int .i64 n] w fun e w' => e = .returned (.tuple #[.slice none 0 0, .bool false]) ∧ RdTo w w' S h [] true := by
  have hc := tkS_none hn
  clear hn
  rcases hr with ⟨rfl, rfl, rfl⟩ | ⟨p, A, c, rfl, x, y⟩
  · clear hc
    go_enter Try.func64, Try.ntmps64
    go_wp2
    go_ret2
    exact ⟨rfl, RdTo.refl (.inl ⟨rfl, rfl, rfl⟩)⟩
  · have hb := x.str
    have h0 : w.cell? ⟨p, 0, none⟩ = some (.slice A l.length c) := by rw [cell_of hb]; rfl
    have h1 : w.cell? ⟨p, 1, none⟩ = some (.bool bad) := by rw [cell_of hb]; rfl
    have hm := x.row.row.2.1
    have X := Aside0.mk x
    have Y := Aside0.mk y
    clear hb
    rcases bad with _ | _
    · rcases hc with hc | hc
      · cases hc
      · clear x y
        by_cases hneg : n < 0
        · clear hc
          go_enter Try.func64, Try.ntmps64
          go_wp2_with fail
          refine (wire_Reader_fail.calls S p A c l false _ X.out).mono ?_
          rintro e w1 ⟨rfl, hx⟩
          go_wp2
          go_ret2
          exact ⟨rfl, hx⟩
        · have hgt : n > (l.length : Int) := by omega
          clear hc
          go_enter Try.func64, Try.ntmps64
          go_wp2_with fail
          refine (wire_Reader_fail.calls S p A c l false _ X.out).mono ?_
          rintro e w1 ⟨rfl, hx⟩
          go_wp2
          go_ret2
          exact ⟨rfl, hx⟩
    · have hl := x.z rfl
      subst hl
      clear hc x y
      go_enter Try.func64, Try.ntmps64
      go_wp2
      go_ret2
      exact ⟨rfl, RdTo.refl (.inr ⟨p, A, c, rfl, X.out, Y.out⟩)⟩

-- AUX takeyes
theorem take_yes (S : Nat → Prop) (h : Value) (l : List Int) (bad : Bool) (n : Int) (b r : List Int) (w : World) (hr : Rd w S h l bad) (hn : tkS n l bad = some (b, r)) :
    Calls Try.prog 64 #[h, .int .i64 n] w fun e w' => ∃ A', e = .returned (.tuple #[.slice A' b.length b.length, .bool true]) ∧ TookTo w w' S h A' b r := by
  obtain ⟨rfl, h0, h1, rfl, rfl⟩ := tkS_some hn
  clear hn
  obtain ⟨m, rfl⟩ := Int.eq_ofNat_of_zero_le h0
  rw [Int.toNat_natCast]
  have hm : m ≤ l.length := by omega
  rw [show (l.take m).length = m by rw [List.length_take]; omega]
  rcases hr with ⟨rfl, rfl, h⟩ | ⟨p, A, c, rfl, x, y⟩
  · cases h
  · have hb := x.str
    have h0 : w.cell? ⟨p, 0, none⟩ = some (.slice A l.length c) := by rw [cell_of hb]; rfl
    have h1 : w.cell? ⟨p, 1, none⟩ = some (.bool false) := by rw [cell_of hb]; rfl
    have f0 := frozen_of hb 0
    have hmx := x.row.row.2.1
    have hlc := x.len
    have HT := Aside0.mk (fun A2 hA2 => took_of (m := m) (A2 := A2) x y hm hA2)
    clear hb x y
    by_cases hcm : c = m
    · have HT2 := HT.out A (by rw [if_pos hcm])
      subst hcm
      rw [Nat.sub_self, show l.length - c = 0 by omega] at HT2
      have HT3 := Aside0.mk HT2
      clear HT HT2
      go_enter Try.func64, Try.ntmps64
      go_wp2
      go_ret2
      exact ⟨A, rfl, HT3.out⟩
    · have HT2 := HT.out _ (by rw [if_neg hcm])
      have HT3 := Aside0.mk HT2
      have hlt : m < c := by omega
      clear HT HT2
      go_enter Try.func64, Try.ntmps64
      go_wp2
      go_ret2
      exact ⟨A, rfl, HT3.out⟩

/-! ### wire_Reader_Num: function 45 -/
theorem wire_Reader_Num.calls (S : Nat → Prop) (h : Value) (l : List Int) (bad : Bool) (w : World) (hr : Rd w S h l bad) :
    Calls Try.prog 45 #[h] w fun e w' => e = .returned (.int .i64 (numS l bad).1) ∧ RdTo w w' S h (numS l bad).2.1 (numS l bad).2.2 := by
  rcases htk : tkS 8 l bad with _ | ⟨b, r⟩
  · have hb : numS l bad = (0, [], true) := by unfold numS; rw [htk]
    have HT := Aside0.mk (fun W (q : Rd W S h l bad) => wire_Reader_take.no S h l bad 8 W q htk)
    rw [hb]
    have HR := Aside0.mk hr
    clear htk hb hr
    go_enter Try.func45, Try.ntmps45
    go_wp2_with fail
    refine (HT.out _ HR.out).mono ?_
    rintro e w1 ⟨rfl, hx⟩
    go_wp2
    go_ret
    exact ⟨rfl, hx⟩
  · have hb : numS l bad = (unL b, r, false) := by unfold numS; rw [htk]
    have HT := Aside0.mk (fun W (q : Rd W S h l bad) => take_yes S h l bad 8 b r W q htk)
    have hbb := hr.byt
    have hbl : b.length = 8 ∧ ∀ x ∈ b, 0 ≤ x ∧ x < 256 := by
      obtain ⟨_, q1, q2, rfl, rfl⟩ := tkS_some htk
      refine ⟨by rw [List.length_take]; omega, fun x hx => hbb x (List.mem_of_mem_take hx)⟩
    rw [hb]
    have HBL := Aside0.mk hbl
    have HR := Aside0.mk hr
    have hb0 : b.length ≤ 8 := by omega
    have hb1 : 8 ≤ b.length := by omega
    clear htk hb hr hbl hbb
    go_enter Try.func45, Try.ntmps45
    go_wp2_with fail
    refine (HT.out _ HR.out).mono ?_
    rintro e w1 ⟨A, rfl, hx⟩
    have HX := Aside0.mk hx
    obtain ⟨ad, e, hc⟩ := C_cells hx.row.row (by omega)
    subst e
    have HC := Aside0.mk hc
    clear hc hx
    go_wp2
    go_loop [5, 17, 6, 7] (fun v5 v17 _ _ => ∃ k : Nat, k ≤ b.length ∧ v17 = .int .i64 k ∧ v5 = .int .i64 (accN b k)) (fun _ v17 _ _ => b.length - (intOf v17).toNat)
    case atStart => exact ⟨0, by omega, rfl, by rw [accN_zero]⟩
    case round =>
      obtain ⟨k, hk, rfl, rfl⟩ := hrel
      by_cases hlt : k < b.length
      · have hx := HC.out k hlt
        obtain ⟨r0, r1⟩ := rd_bd HBL.out.2 k hlt
        have hs := accN_step b HBL.out.2 k (by omega) hlt
        have HS := Aside0.mk hs
        have q1 : IntKind.i64.wrap (8 * (k : Int)) = 8 * (k : Int) := IntWalk.i64_in _ (by omega)
        have q2 : (8 * (k : Int)).toNat = 8 * k := by omega
        have q3 : (0 : Int) ≤ 8 * (k : Int) := by omega
        clear hs
        go_wp2
        refine ⟨⟨k + 1, by omega, by go_num, ?_⟩, by simp [intOf]; omega⟩
        rw [← HS.out]
      · obtain rfl : k = b.length := by omega
        go_wp2
        go_ret
        have e8 := HBL.out.1
        rw [e8]
        exact ⟨rfl, HX.out.rdto⟩

-- AUX rdlt
theorem Rd.lt {w : World} {S : Nat → Prop} {h : Value} {l : List Int} {bad : Bool} (x : Rd w S h l bad) : ∀ i, Pt h i → i < w.heap.size := by
  rintro i hi
  rcases x with ⟨rfl, _, _⟩ | ⟨p, A, c, rfl, x, y⟩
  · cases hi
  · have : p = i := by simpa [Pt] using hi
    subst this
    exact blk_size x.str
theorem numS_len (l : List Int) (bad : Bool) : (numS l bad).2.1.length ≤ l.length := by
  unfold numS
  split
  · rename_i b r h
    obtain ⟨_, _, _, _, rfl⟩ := tkS_some h
    simp
  · simp

/-! ### wire_Reader_Bytes: function 48 -/
/-- What reading bytes leaves: the row, whose cells may be written over. -/
structure BytesTo (w w' : World) (S : Nat → Prop) (h : Value) (A : Option Addr) (b r : List Int) (bad : Bool) : Prop where
  row : Rb w' S A b
  nf : Nf w' A b
  rdto : RdTo w w' S h r bad
  stab : RdX w' S h r bad A b.length
theorem wire_Reader_Bytes.calls (S : Nat → Prop) (h : Value) (l : List Int) (bad : Bool) (w : World) (hr : Rd w S h l bad) :
    Calls Try.prog 48 #[h] w fun e w' => ∃ A c, e = .returned (.slice A (bytesS l bad).1.length c) ∧ (bytesS l bad).1.length ≤ c ∧ BytesTo w w' S h A (bytesS l bad).1 (bytesS l bad).2.1 (bytesS l bad).2.2 := by
  have HN := Aside0.mk (fun W (q : Rd W S h l bad) => wire_Reader_Num.calls S h l bad W q)
  have hf : bytesS l bad = match tkS (numS l bad).1 (numS l bad).2.1 (numS l bad).2.2 with
    | some (b, r) => (b, r, false)
    | none => ([], [], true) := rfl
  have HR := Aside0.mk hr
  generalize numS l bad = y at *
  obtain ⟨n, r1, bd⟩ := y
  rw [hf]
  clear hf hr
  rcases htk : tkS n r1 bd with _ | ⟨b, r⟩
  · have HT := Aside0.mk (fun W (q : Rd W S h r1 bd) => wire_Reader_take.no S h r1 bd n W q htk)
    clear htk
    go_enter Try.func48, Try.ntmps48
    go_wp2_with fail
    refine (HN.out _ HR.out).mono ?_
    rintro e w1 ⟨rfl, hx⟩
    have HX := Aside0.mk hx
    clear hx
    go_wp2_with fail
    refine (HT.out _ HX.out.rd).mono ?_
    rintro e w2 ⟨rfl, hy⟩
    have HY := Aside0.mk hy
    clear hy
    go_wp2
    go_ret
    have hz := HX.out.then_ HY.out
    refine ⟨none, 0, rfl, by simp, ⟨Kd.C_nil _ _, fun h => absurd h (by simp)⟩, fun h => absurd h (by simp), hz, ?_⟩
    rcases hz.rd with q | ⟨p, A, c, hp, q1, q2⟩
    · exact .inl q
    · exact .inr ⟨p, A, c, hp, q1, q2, fun h => absurd h (by simp), fun ad a _ h => by cases h⟩
  · have HT := Aside0.mk (fun W (q : Rd W S h r1 bd) => take_yes S h r1 bd n b r W q htk)
    clear htk
    go_enter Try.func48, Try.ntmps48
    go_wp2_with fail
    refine (HN.out _ HR.out).mono ?_
    rintro e w1 ⟨rfl, hx⟩
    have HX := Aside0.mk hx
    clear hx
    go_wp2_with fail
    refine (HT.out _ HX.out.rd).mono ?_
    rintro e w2 ⟨A, rfl, hy⟩
    have HY := Aside0.mk hy
    clear hy
    go_wp2
    go_ret
    exact ⟨A, b.length, rfl, Nat.le_refl _, HY.out.row, HY.out.nf, HX.out.then_ HY.out.rdto, HY.out.stab⟩

/-! ### wire_Reader_Text: function 44 -/
theorem wire_Reader_Text.calls (S : Nat → Prop) (h : Value) (l : List Int) (bad : Bool) (w : World) (hr : Rd w S h l bad) :
    Calls Try.prog 44 #[h] w fun e w' => e = .returned (.string (strOfNums (bytesS l bad).1)) ∧ RdTo w w' S h (bytesS l bad).2.1 (bytesS l bad).2.2 := by
  have HR := Aside0.mk hr
  clear hr
  go_enter Try.func44, Try.ntmps44
  go_wp2_with fail
  refine (wire_Reader_Bytes.calls S h l bad _ HR.out).mono ?_
  rintro e w1 ⟨A, c, rfl, hc, hx⟩
  have HX := Aside0.mk hx.rdto
  have hcv := Kd.C_string (P := Try.prog) (A := A) (c := c) Try.underlying25 Try.underlying5 Try.underlying9 hx.row.row
  clear hx
  go_wp2
  go_ret
  exact ⟨rfl, HX.out⟩

end Go.Proofs.Ytdehifinipmmcaa.Hp
