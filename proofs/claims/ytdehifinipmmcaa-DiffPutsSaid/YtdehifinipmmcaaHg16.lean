/- Contracts of functions of the given program, and what they lean on: written by this session's own program, out of hand texts laid into the kit's printer. -/
import Derived.Test.YtdehifinipmmcaaHp0
import Derived.Test.YtdehifinipmmcaaHg1
import Derived.Test.YtdehifinipmmcaaHg2
import Derived.Test.YtdehifinipmmcaaHg3
import Derived.Test.YtdehifinipmmcaaHg4
import Derived.Test.YtdehifinipmmcaaHg5
import Derived.Test.YtdehifinipmmcaaHg6
import Derived.Test.YtdehifinipmmcaaHg8
import Derived.Test.YtdehifinipmmcaaHg9
import Derived.Test.YtdehifinipmmcaaHg10
import Derived.Test.YtdehifinipmmcaaHg13
namespace Go.Proofs.Ytdehifinipmmcaa.Hp
open Go.RowKit Go.Proofs.YtdehifinipmmcaaW.PrintWords Go.Proofs.YtdehifinipmmcaaW.PrintLast Go.Proofs.YtdehifinipmmcaaW.PrintMore
attribute [local go_sem] max2_int min2_int max_two min_two max_three min_three max_four min_four   -- for this text's walks alone
set_option linter.unusedVariables false
set_option linter.unusedSimpArgs false

/-! ### laminalaw17_plain: function 23 -/
def laminalaw17_plain.l0 : Nat → List (S61) → Int → Int → Int → Int → List (S65) → Option (Int × Int × (List (S65)))
  | 0, _, _, _, _, _, _ => none
  | k + 1, x12, x13, x14, x146000, x146001, x146002 => if x14 < x13 then (if 0 ≤ x14 then (if x14 < (x12.length : Int) then (if x146002.length < 2932031007402 then (laminalaw17_plain.l0 k x12 x13 (wrap64 (x14 + 1)) x146000 x146001 (x146002 ++ [(⟨(rd_T61 x12 x14).f0, (rd_T61 x12 x14).f1, (rd_T61 x12 x14).f2, (rd_T61 x12 x14).f3⟩ : S65)])) else (none)) else (none)) else (none)) else (some (x146000, x146001, x146002))
def laminalaw17_plain.f (k : Nat) (a0_0 : Int) (a0_1 : Int) (l0_2 : List (S61)) : Option (Int × Int × (List (S65))) := laminalaw17_plain.l0 k l0_2 (l0_2.length : Int) 0 a0_0 a0_1 ([] : List (S65))
theorem laminalaw17_plain.mono_l : ∀ k, (∀ y0 y1 y2 y3 y4 y5, LeO (laminalaw17_plain.l0 k y0 y1 y2 y3 y4 y5) (laminalaw17_plain.l0 (k + 1) y0 y1 y2 y3 y4 y5))
  | 0 => fun _ _ _ _ _ _ r h => by simp [laminalaw17_plain.l0] at h
  | k + 1 => by
    have ih0 := laminalaw17_plain.mono_l k
    · intro y0 y1 y2 y3 y4 y5
      unfold laminalaw17_plain.l0
      repeat' first
      | (with_reducible exact ih0 _ _ _ _ _ _)
      | (with_reducible exact LeO.refl _)
      | (with_reducible exact LeO.none _)
      | (with_reducible refine LeO.ite ?_ ?_)
      | (with_reducible refine LeO.bind ?_ (fun _ => ?_))
      | exact ih0 _ _ _ _ _ _
      | exact LeO.none _
      | refine LeO.ite ?_ ?_
      | refine LeO.bind ?_ (fun _ => ?_)
theorem laminalaw17_plain.mono : ∀ a0 a1 a2 k, LeO (laminalaw17_plain.f k a0 a1 a2) (laminalaw17_plain.f (k + 1) a0 a1 a2) := by
  intro a0 a1 a2 k
  have ih0 := laminalaw17_plain.mono_l k
  unfold laminalaw17_plain.f
  repeat' first
      | (with_reducible exact ih0 _ _ _ _ _ _)
      | (with_reducible exact LeO.refl _)
      | (with_reducible exact LeO.none _)
      | (with_reducible refine LeO.ite ?_ ?_)
      | (with_reducible refine LeO.bind ?_ (fun _ => ?_))
      | exact ih0 _ _ _ _ _ _
      | exact LeO.none _
      | refine LeO.ite ?_ ?_
      | refine LeO.bind ?_ (fun _ => ?_)
set_option maxHeartbeats 8000000 in
set_option maxRecDepth 100000 in
theorem laminalaw17_plain.calls (k : Nat) (a0_0 : Int) (a0_1 : Int) (P0_2_ : Nat → Prop) (A0_2 : Option Addr) (c0_2 : Nat) (l0_2 : List (S61)) (r1 : Int) (r2 : Int) (r3 : List (S65)) (w : World) (hs0_2 : Kd.V k61 61 w w.heap.size (fun k_ => P0_2_ k_) (.slice A0_2 l0_2.length c0_2) l0_2) (h : laminalaw17_plain.f k a0_0 a0_1 l0_2 = some (r1, r2, r3)) :
    Calls Try.prog 23 #[.agg #[.int .i64 a0_0, .int .i64 a0_1, .slice A0_2 l0_2.length c0_2]] w fun e w' => ∃ v2_ : Value, e = .returned (.agg #[.int .i64 r1, .int .i64 r2, v2_]) ∧ Kd.N k65 65 w' w.heap.size (fun k_ => (P0_2_ k_ ∨ w.heap.size ≤ k_)) v2_ r3 ∧ Below w.heap.size w w' := by
  have hu35 := Try.underlying35
  have hu24 := Try.underlying24
  have hu61 := Try.underlying61
  have hu65 := Try.underlying65
  have HO0_2 := Aside0.mk (show Kd.V k61 61 w w.heap.size (fun k_ => (P0_2_ k_ ∨ w.heap.size ≤ k_)) (.slice A0_2 l0_2.length c0_2) l0_2 from Kd.V_mono hs0_2 (fun k_ hk => .inl hk))
  have HB := Aside0.mk (Below.refl w.heap.size w)
  have H : (laminalaw17_plain.l0 k l0_2 (l0_2.length : Int) 0 a0_0 a0_1 ([] : List (S65))) = some (r1, r2, r3) := h
  clear h
  have H' := Aside0.mk H
  clear H
  go_enter Try.func23, Try.ntmps23
  go_wp2_with (first | ((with_reducible refine gate_dst (N := 1) rfl ?_); refine box_event ?hg (N := 1) ?hd (cs := #[.int .i64 a0_0, .int .i64 a0_1, .slice A0_2 l0_2.length c0_2]) (t := 35) ?hr ?_; (case hd => rfl); (case hg => rfl); (case hr => first | (go_simp; done) | (go_simp; rfl)); intro gb143 hg w2 hbox hb; have n0_ := Aside0.mk (Kd.V_below (Kd.V_elderB (by (with_reducible repeat (first | apply Kd.V_alloc | apply Kd.V_drewN | apply Kd.V_drew)); exact HO0_2.out) gb143 (Nat.le_of_eq hg.symm)) hb); have n1_ := Aside0.mk (below_step (by repeat (first | (with_reducible first | exact HB.out | apply below_alloc | apply pw_below_drewN | apply below_drew1) | exact HB.out)) hb); have n2_ := Aside0.mk (hbox); have n3_ := Aside0.mk ((by rw [hg]; exact (below_size (by repeat (first | (with_reducible first | exact HB.out | apply below_alloc | apply pw_below_drewN | apply below_drew1) | exact HB.out))) : w.heap.size ≤ gb143)); have n4_ := Aside0.mk ((by rw [hg]; exact (below_size (by repeat (first | (with_reducible first | exact HB.out | apply below_alloc | apply pw_below_drewN | apply below_drew1) | exact HB.out))) : w.heap.size ≤ gb143)); clear HO0_2; clear HB; have HO0_2 := n0_; have HB := n1_; have BK143 := n2_; have GW143 := n3_; have GE143 := n4_; clear n0_ n1_ n2_ n3_ n4_; clear hb hbox hg) | ((with_reducible refine gate_dst (N := 2) rfl ?_); refine box_event ?hg (N := 2) ?hd (cs := #[.int .i64 0, .int .i64 0, .slice none 0 0]) (t := 24) ?hr ?_; (case hd => rfl); (case hg => rfl); (case hr => first | (go_simp; done) | (go_simp; rfl)); intro gb144 hg w3 hbox hb; have n0_ := Aside0.mk (Kd.V_below (Kd.V_elderB (by (with_reducible repeat (first | apply Kd.V_alloc | apply Kd.V_drewN | apply Kd.V_drew)); exact HO0_2.out) gb144 (Nat.le_of_eq hg.symm)) hb); have n1_ := Aside0.mk (blk_below (g := gb143) (o := .cells #[.int .i64 a0_0, .int .i64 a0_1, .slice A0_2 l0_2.length c0_2] 35 (0, 0)) (by (with_reducible repeat (first | refine blk_drewN ?_ _ | refine blk_drew ?_ | refine blk_alloc ?_ _)); exact BK143.out) hb); have n2_ := Aside0.mk (below_step (by repeat (first | (with_reducible first | exact HB.out | apply below_alloc | apply pw_below_drewN | apply below_drew1 | refine below_set ?_ GE143.out) | exact HB.out)) hb); have n3_ := Aside0.mk (hbox); have n4_ := Aside0.mk ((by rw [hg]; exact (below_size (by repeat (first | (with_reducible first | exact HB.out | apply below_alloc | apply pw_below_drewN | apply below_drew1 | refine below_set ?_ GE143.out) | exact HB.out))) : w.heap.size ≤ gb144)); have n5_ := Aside0.mk ((by rw [hg]; exact (below_size (by repeat (first | (with_reducible first | exact HB.out | apply below_alloc | apply pw_below_drewN | apply below_drew1 | refine below_set ?_ GE143.out) | exact HB.out))) : w.heap.size ≤ gb144)); have n6_ := Aside0.mk ((by rw [hg]; exact Nat.ne_of_lt (blk_lt (g := gb143) (o := .cells #[.int .i64 a0_0, .int .i64 a0_1, .slice A0_2 l0_2.length c0_2] 35 (0, 0)) (by (with_reducible repeat (first | refine blk_drewN ?_ _ | refine blk_drew ?_ | refine blk_alloc ?_ _)); exact BK143.out)) : gb143 ≠ gb144)); have n7_ := Aside0.mk ((by rw [hg]; exact Nat.ne_of_gt (blk_lt (g := gb143) (o := .cells #[.int .i64 a0_0, .int .i64 a0_1, .slice A0_2 l0_2.length c0_2] 35 (0, 0)) (by (with_reducible repeat (first | refine blk_drewN ?_ _ | refine blk_drew ?_ | refine blk_alloc ?_ _)); exact BK143.out)) : gb144 ≠ gb143)); clear HO0_2; clear BK143; clear HB; have HO0_2 := n0_; have BK143 := n1_; have HB := n2_; have BK144 := n3_; have GW144 := n4_; have GE144 := n5_; have NB143_144 := n6_; have NB144_143 := n7_; clear n0_ n1_ n2_ n3_ n4_ n5_ n6_ n7_; clear hb hbox hg; have hnb4 := NB143_144.out; have hnc4 := NB144_143.out; have hcz5_0 : w3.cell? ⟨gb143, 0, none⟩ = some (.int .i64 a0_0) := (blk_cell BK143.out 0).trans rfl; have hcz5_1 : w3.cell? ⟨gb143, 1, none⟩ = some (.int .i64 a0_1) := (blk_cell BK143.out 1).trans rfl; have hcz5_2 : w3.cell? ⟨gb143, 2, none⟩ = some (.slice A0_2 l0_2.length c0_2) := (blk_cell BK143.out 2).trans rfl; have hfz5_0 := blk_frozen BK143.out 0; have hfz5_1 := blk_frozen BK143.out 1; have hfz5_2 := blk_frozen BK143.out 2) | ((with_reducible refine gate_dst (N := 3) rfl ?_); refine box_event ?hg (N := 3) ?hd (cs := #[.int .i64 0, .int .i64 0, .slice none 0 0]) (t := 24) ?hr ?_; (case hd => rfl); (case hg => rfl); (case hr => first | (go_simp; done) | (go_simp; rfl)); intro gb145 hg w6 hbox hb; have n0_ := Aside0.mk (Kd.V_below (Kd.V_elderB (by (with_reducible repeat (first | apply Kd.V_alloc | apply Kd.V_drewN | apply Kd.V_drew)); exact HO0_2.out) gb145 (Nat.le_of_eq hg.symm)) hb); have n1_ := Aside0.mk (blk_below (g := gb143) (o := .cells #[.int .i64 a0_0, .int .i64 a0_1, .slice A0_2 l0_2.length c0_2] 35 (0, 0)) (by (with_reducible repeat (first | refine blk_drewN ?_ _ | refine blk_drew ?_ | refine blk_alloc ?_ _)); exact BK143.out) hb); have n2_ := Aside0.mk (blk_below (g := gb144) (o := .cells #[.int .i64 0, .int .i64 0, .slice none 0 0] 24 (0, 0)) (by (with_reducible repeat (first | refine blk_drewN ?_ _ | refine blk_drew ?_ | refine blk_alloc ?_ _)); exact BK144.out) hb); have n3_ := Aside0.mk (below_step (by repeat (first | (with_reducible first | exact HB.out | apply below_alloc | apply pw_below_drewN | apply below_drew1 | refine below_set ?_ GE143.out | refine below_set ?_ GE144.out) | exact HB.out)) hb); have n4_ := Aside0.mk (hbox); have n5_ := Aside0.mk ((by rw [hg]; exact (below_size (by repeat (first | (with_reducible first | exact HB.out | apply below_alloc | apply pw_below_drewN | apply below_drew1 | refine below_set ?_ GE143.out | refine below_set ?_ GE144.out) | exact HB.out))) : w.heap.size ≤ gb145)); have n6_ := Aside0.mk ((by rw [hg]; exact (below_size (by repeat (first | (with_reducible first | exact HB.out | apply below_alloc | apply pw_below_drewN | apply below_drew1 | refine below_set ?_ GE143.out | refine below_set ?_ GE144.out) | exact HB.out))) : w.heap.size ≤ gb145)); have n7_ := Aside0.mk ((by rw [hg]; exact Nat.ne_of_lt (blk_lt (g := gb143) (o := .cells #[.int .i64 a0_0, .int .i64 a0_1, .slice A0_2 l0_2.length c0_2] 35 (0, 0)) (by (with_reducible repeat (first | refine blk_drewN ?_ _ | refine blk_drew ?_ | refine blk_alloc ?_ _)); exact BK143.out)) : gb143 ≠ gb145)); have n8_ := Aside0.mk ((by rw [hg]; exact Nat.ne_of_gt (blk_lt (g := gb143) (o := .cells #[.int .i64 a0_0, .int .i64 a0_1, .slice A0_2 l0_2.length c0_2] 35 (0, 0)) (by (with_reducible repeat (first | refine blk_drewN ?_ _ | refine blk_drew ?_ | refine blk_alloc ?_ _)); exact BK143.out)) : gb145 ≠ gb143)); have n9_ := Aside0.mk ((by rw [hg]; exact Nat.ne_of_lt (blk_lt (g := gb144) (o := .cells #[.int .i64 0, .int .i64 0, .slice none 0 0] 24 (0, 0)) (by (with_reducible repeat (first | refine blk_drewN ?_ _ | refine blk_drew ?_ | refine blk_alloc ?_ _)); exact BK144.out)) : gb144 ≠ gb145)); have n10_ := Aside0.mk ((by rw [hg]; exact Nat.ne_of_gt (blk_lt (g := gb144) (o := .cells #[.int .i64 0, .int .i64 0, .slice none 0 0] 24 (0, 0)) (by (with_reducible repeat (first | refine blk_drewN ?_ _ | refine blk_drew ?_ | refine blk_alloc ?_ _)); exact BK144.out)) : gb145 ≠ gb144)); clear HO0_2; clear BK143; clear BK144; clear HB; have HO0_2 := n0_; have BK143 := n1_; have BK144 := n2_; have HB := n3_; have BK145 := n4_; have GW145 := n5_; have GE145 := n6_; have NB143_145 := n7_; have NB145_143 := n8_; have NB144_145 := n9_; have NB145_144 := n10_; clear n0_ n1_ n2_ n3_ n4_ n5_ n6_ n7_ n8_ n9_ n10_; clear hb hbox hg; have hnb7 := NB145_143.out; have hnc7 := NB143_145.out; have hnb8 := NB145_144.out; have hnc8 := NB144_145.out; have hcz9_0 : w6.cell? ⟨gb145, 0, none⟩ = some (.int .i64 0) := (blk_cell BK145.out 0).trans rfl; have hcz9_1 : w6.cell? ⟨gb145, 1, none⟩ = some (.int .i64 0) := (blk_cell BK145.out 1).trans rfl; have hcz9_2 : w6.cell? ⟨gb145, 2, none⟩ = some (.slice none 0 0) := (blk_cell BK145.out 2).trans rfl; have hfz9_0 := blk_frozen BK145.out 0; have hfz9_1 := blk_frozen BK145.out 1; have hfz9_2 := blk_frozen BK145.out 2; have hcz10_0 : w6.cell? ⟨gb143, 0, none⟩ = some (.int .i64 a0_0) := (blk_cell BK143.out 0).trans rfl; have hcz10_1 : w6.cell? ⟨gb143, 1, none⟩ = some (.int .i64 a0_1) := (blk_cell BK143.out 1).trans rfl; have hcz10_2 : w6.cell? ⟨gb143, 2, none⟩ = some (.slice A0_2 l0_2.length c0_2) := (blk_cell BK143.out 2).trans rfl; have hfz10_0 := blk_frozen BK143.out 0; have hfz10_1 := blk_frozen BK143.out 1; have hfz10_2 := blk_frozen BK143.out 2))
  go_loopg [14] k (fun kq v14 w' => ∃ (x14_1 : Int) (x146002_1 : List (S65)) (u146002 : Value), v14 = .int .i64 x14_1 ∧ Aside0 (laminalaw17_plain.l0 kq l0_2 (l0_2.length : Int) x14_1 a0_0 a0_1 x146002_1 = some (r1, r2, r3)) ∧ Aside0 (kq ≤ k) ∧ Aside0 (Kd.V k61 61 w' w.heap.size (fun k_ => (P0_2_ k_ ∨ w.heap.size ≤ k_) ∧ some k_ ≠ (u146002 : Value).ownBlock ∧ k_ ≠ gb143 ∧ k_ ≠ gb144 ∧ k_ ≠ gb145) (.slice A0_2 l0_2.length c0_2) l0_2) ∧ Aside0 (Kd.V k61 61 w' w.heap.size (fun k_ => (P0_2_ k_ ∨ w.heap.size ≤ k_) ∧ some k_ ≠ (u146002 : Value).ownBlock ∧ k_ ≠ gb143 ∧ k_ ≠ gb144 ∧ k_ ≠ gb145) (.slice A0_2 l0_2.length c0_2) l0_2) ∧ Aside0 (Kd.N k65 65 w' w.heap.size (fun k_ => (P0_2_ k_ ∨ w.heap.size ≤ k_) ∧ k_ ≠ gb143 ∧ k_ ≠ gb144 ∧ k_ ≠ gb145) u146002 x146002_1) ∧ Aside0 (w'.heap[gb143]? = some (.cells #[.int .i64 a0_0, .int .i64 a0_1, (.slice A0_2 l0_2.length c0_2)] 35 (0, 0))) ∧ Aside0 (w'.heap[gb144]? = some (.cells #[.int .i64 0, .int .i64 0, (.slice none 0 0)] 24 (0, 0))) ∧ Aside0 (w'.heap[gb145]? = some (.cells #[.int .i64 a0_0, .int .i64 a0_1, u146002] 24 (0, 0))) ∧ Aside0 (Below w.heap.size w w'))
  case atStart => exact ⟨(0), (([] : List (S65))), (.slice none 0 0), (by first | rfl | (simp; done) | (simp [*]; done)), H', ⟨Nat.le_refl _⟩, ⟨by (with_reducible repeat (first | apply Kd.V_alloc | apply Kd.V_drewN | apply Kd.V_drew)); exact Kd.V_mono (Kd.V_far (p := ⟨gb145, 2, none⟩) (Kd.V_far (p := ⟨gb145, 1, none⟩) (Kd.V_far (p := ⟨gb145, 0, none⟩) (Kd.V_mono HO0_2.out (fun k_ hk => (⟨hk, hk.2⟩ : _ ∧ k_ ≠ gb145))) (fun _ hk => hk.2) (.int .i64 a0_0)) (fun _ hk => hk.2) (.int .i64 a0_1)) (fun _ hk => hk.2) (.slice none 0 0)) (fun _ hk => ⟨hk.1.1.1.1, ⟨(by simp [Value.ownBlock]), ⟨hk.1.1.1.2, ⟨hk.1.1.2, hk.1.2⟩⟩⟩⟩)⟩, ⟨by (with_reducible repeat (first | apply Kd.V_alloc | apply Kd.V_drewN | apply Kd.V_drew)); exact Kd.V_mono (Kd.V_far (p := ⟨gb145, 2, none⟩) (Kd.V_far (p := ⟨gb145, 1, none⟩) (Kd.V_far (p := ⟨gb145, 0, none⟩) (Kd.V_mono HO0_2.out (fun k_ hk => (⟨hk, hk.2⟩ : _ ∧ k_ ≠ gb145))) (fun _ hk => hk.2) (.int .i64 a0_0)) (fun _ hk => hk.2) (.int .i64 a0_1)) (fun _ hk => hk.2) (.slice none 0 0)) (fun _ hk => ⟨hk.1.1.1.1, ⟨(by simp [Value.ownBlock]), ⟨hk.1.1.1.2, ⟨hk.1.1.2, hk.1.2⟩⟩⟩⟩)⟩, ⟨by first | exact Kd.S_nil _ _ _ _ _ | exact Kd.N_nil _ _ _ _ _ | exact Kd.V_nil _ _ _ _ _ | exact Kd.Q_nil _ _ _ _ _ | exact Kd.R_nil _ _ _ _ _⟩, ⟨by (with_reducible repeat (first | refine blk_drewN ?_ _ | refine blk_drew ?_ | refine blk_alloc ?_ _)); refine blk_far ?_ NB143_145.out _; (with_reducible repeat (first | refine blk_drewN ?_ _ | refine blk_drew ?_ | refine blk_alloc ?_ _)); refine blk_far ?_ NB143_145.out _; (with_reducible repeat (first | refine blk_drewN ?_ _ | refine blk_drew ?_ | refine blk_alloc ?_ _)); refine blk_far ?_ NB143_145.out _; (with_reducible repeat (first | refine blk_drewN ?_ _ | refine blk_drew ?_ | refine blk_alloc ?_ _)); exact BK143.out⟩, ⟨by (with_reducible repeat (first | refine blk_drewN ?_ _ | refine blk_drew ?_ | refine blk_alloc ?_ _)); refine blk_far ?_ NB144_145.out _; (with_reducible repeat (first | refine blk_drewN ?_ _ | refine blk_drew ?_ | refine blk_alloc ?_ _)); refine blk_far ?_ NB144_145.out _; (with_reducible repeat (first | refine blk_drewN ?_ _ | refine blk_drew ?_ | refine blk_alloc ?_ _)); refine blk_far ?_ NB144_145.out _; (with_reducible repeat (first | refine blk_drewN ?_ _ | refine blk_drew ?_ | refine blk_alloc ?_ _)); exact BK144.out⟩, ⟨by (with_reducible repeat (first | refine blk_drewN ?_ _ | refine blk_drew ?_ | refine blk_alloc ?_ _)); refine blk_put (cs := #[.int .i64 a0_0, .int .i64 a0_1, .slice none 0 0]) ?_ 2 _ rfl; (with_reducible repeat (first | refine blk_drewN ?_ _ | refine blk_drew ?_ | refine blk_alloc ?_ _)); refine blk_put (cs := #[.int .i64 a0_0, .int .i64 0, .slice none 0 0]) ?_ 1 _ rfl; (with_reducible repeat (first | refine blk_drewN ?_ _ | refine blk_drew ?_ | refine blk_alloc ?_ _)); refine blk_put (cs := #[.int .i64 0, .int .i64 0, .slice none 0 0]) ?_ 0 _ rfl; (with_reducible repeat (first | refine blk_drewN ?_ _ | refine blk_drew ?_ | refine blk_alloc ?_ _)); exact BK145.out⟩, ⟨by repeat (first | (with_reducible first | exact HB.out | apply below_alloc | apply pw_below_drewN | apply below_drew1 | refine below_set ?_ GE143.out | refine below_set ?_ GE144.out | refine below_set ?_ GE145.out) | exact HB.out)⟩⟩
  case round =>
    clear H'
    try clear c2
    try clear p2
    try clear c4
    try clear c7
    try clear c8
    try clear hcz10_0
    try clear hcz10_1
    try clear hcz10_2
    try clear hcz5_0
    try clear hcz5_1
    try clear hcz5_2
    try clear hcz9_0
    try clear hcz9_1
    try clear hcz9_2
    try clear hfz10_0
    try clear hfz10_1
    try clear hfz10_2
    try clear hfz5_0
    try clear hfz5_1
    try clear hfz5_2
    try clear hfz9_0
    try clear hfz9_1
    try clear hfz9_2
    obtain ⟨x14_1, x146002_1, u146002, rfl, HA, HK1, HO_12, HO_144002, HO_146002, BK143, BK144, BK145, HB⟩ := hrel
    cases gk with
    | zero => exact absurd HA.out (by simp [laminalaw17_plain.l0])
    | succ k1 =>
      have H := HA.out
      clear HA
      simp only [laminalaw17_plain.l0] at H
      by_cases c11 : x14_1 < (l0_2.length : Int)
      · rw [if_pos c11] at H
        have c11b0 : decide (x14_1 < (l0_2.length : Int)) = true := decide_eq_true c11
        clear c11
        by_cases c12 : 0 ≤ x14_1
        · rw [if_pos c12] at H
          have c12b0 : decide (0 ≤ x14_1) = true := decide_eq_true c12
          clear c12
          by_cases c13 : x14_1 < (l0_2.length : Int)
          · rw [if_pos c13] at H
            have c13b0 : decide (x14_1 < (l0_2.length : Int)) = true := decide_eq_true c13
            clear c13
            by_cases c14 : x146002_1.length < 2932031007402
            · rw [if_pos c14] at H
              have LMc14 := Aside0.mk c14
              clear c14
              obtain ⟨y148, hy148⟩ : ∃ y_ : List (S65), y_ = (x146002_1 ++ [(⟨(rd_T61 l0_2 x14_1).f0, (rd_T61 l0_2 x14_1).f1, (rd_T61 l0_2 x14_1).f2, (rd_T61 l0_2 x14_1).f3⟩ : S65)]) := ⟨_, rfl⟩
              replace H : (laminalaw17_plain.l0 k1 l0_2 (l0_2.length : Int) (wrap64 (x14_1 + 1)) a0_0 a0_1 y148) = some (r1, r2, r3) := by first | (rw [hy148]; with_reducible exact H) | (have H2_ := (Option.bind_some _ _).symm.trans H; rw [hy148]; with_reducible exact H2_) | (have H2_ := (Option.bind_some _ _).symm.trans H; with_reducible exact H2_) | with_reducible exact H | (rw [hy148]; exact H) | exact H
              have Ny148 := Aside0.mk hy148
              clear hy148
              have H' := Aside0.mk H
              clear H
              have p146 : 0 ≤ (x14_1 : Int) := of_decide_eq_true (by first | (with_reducible assumption) | assumption)
              have q146 : x14_1 < (l0_2.length : Int) := of_decide_eq_true (by first | (with_reducible assumption) | assumption)
              obtain ⟨ad146, A146_3, c146_3, e146, hx146_0, hx146_1, hx146_2, hx146_3, hl146_3, hi146_3⟩ := at_T61 (Kd.V_reads' HO_12.out).2.2 x14_1 p146 q146
              cases e146
              obtain ⟨ce146, hce146, hMe146, hcc146⟩ := Kd.V_get HO_12.out z61 x14_1 p146 (by first | exact q146 | exact of_decide_eq_true (by first | (with_reducible assumption) | assumption) | (have e_ := (Kd.V_reads' HO_12.out).1; omega))
              obtain ⟨ua146_3, uc146_3, rfl, ul146_3, ge146_3⟩ := k61_openF hMe146
              have hv146_3 := hcc146 3 _ rfl
              rw [add_field _ _ 3 (by omega)] at hv146_3
              replace hv146_3 := Option.some.inj (hv146_3.symm.trans hx146_3)
              injection hv146_3 with hva_ hvn_ hvc_
              rw [hva_] at ge146_3
              rw [hvc_] at ul146_3
              have HL146_3 := Aside0.mk (show Kd.V (Kd.int .u8) 5 _ w.heap.size _ _ ((rd_T61 l0_2 x14_1).f3) from Kd.V_mk ul146_3 ge146_3)
              clear hva_ hvn_ hvc_ ge146_3 ul146_3
              clear hcc146 hce146
              have HR146_3 := Aside0.mk hi146_3
              have HC146_3 := Aside0.mk hl146_3
              clear hi146_3 hl146_3
              replace p146 := eq_true p146
              replace q146 := eq_true q146
              go_wp2_with (first | ((with_reducible refine gate_dst (N := 5) rfl ?_); refine box_event ?hg (N := 5) ?hd (cs := #[.int .i64 0, .int .i64 0, .bool false, .slice none 0 0]) (t := 61) ?hr ?_; (case hd => rfl); (case hg => rfl); (case hr => first | (go_simp; done) | (go_simp; rfl)); intro gb147 hg w15 hbox hb; have n0_ := Aside0.mk (Kd.V_below (Kd.V_elderB (by (with_reducible repeat (first | apply Kd.V_alloc | apply Kd.V_drewN | apply Kd.V_drew)); exact HO_12.out) gb147 (Nat.le_of_eq hg.symm)) hb); have n1_ := Aside0.mk (Kd.V_below (Kd.V_elderB (by (with_reducible repeat (first | apply Kd.V_alloc | apply Kd.V_drewN | apply Kd.V_drew)); exact HO_144002.out) gb147 (Nat.le_of_eq hg.symm)) hb); have n2_ := Aside0.mk (Kd.N_below (Kd.N_elderB (by (with_reducible repeat (first | apply Kd.N_alloc | apply Kd.N_drewN | apply Kd.N_drew)); exact HO_146002.out) gb147 (Nat.le_of_eq hg.symm)) hb); have n3_ := Aside0.mk (Kd.V_below (Kd.V_elderB (by (with_reducible repeat (first | apply Kd.V_alloc | apply Kd.V_drewN | apply Kd.V_drew)); exact HL146_3.out) gb147 (Nat.le_of_eq hg.symm)) hb); have n4_ := Aside0.mk (blk_below (g := gb143) (o := .cells #[.int .i64 a0_0, .int .i64 a0_1, .slice (some ad146) l0_2.length c0_2] 35 (0, 0)) (by (with_reducible repeat (first | refine blk_drewN ?_ _ | refine blk_drew ?_ | refine blk_alloc ?_ _)); exact BK143.out) hb); have n5_ := Aside0.mk (blk_below (g := gb144) (o := .cells #[.int .i64 0, .int .i64 0, .slice none 0 0] 24 (0, 0)) (by (with_reducible repeat (first | refine blk_drewN ?_ _ | refine blk_drew ?_ | refine blk_alloc ?_ _)); exact BK144.out) hb); have n6_ := Aside0.mk (blk_below (g := gb145) (o := .cells #[.int .i64 a0_0, .int .i64 a0_1, u146002] 24 (0, 0)) (by (with_reducible repeat (first | refine blk_drewN ?_ _ | refine blk_drew ?_ | refine blk_alloc ?_ _)); exact BK145.out) hb); have n7_ := Aside0.mk (Kd.C_below (by repeat (first | (with_reducible exact HR146_3.out) | (with_reducible refine Kd.C_alloc ?_ _) | (with_reducible refine Kd.C_drewN ?_ _) | (with_reducible refine Kd.C_drew ?_) | exact HR146_3.out)) hb); have n8_ := Aside0.mk (below_step (by repeat (first | (with_reducible first | exact HB.out | apply below_alloc | apply pw_below_drewN | apply below_drew1 | refine below_set ?_ GE143.out | refine below_set ?_ GE144.out | refine below_set ?_ GE145.out) | exact HB.out)) hb); have n9_ := Aside0.mk (hbox); have n10_ := Aside0.mk ((by rw [hg]; exact (below_size (by repeat (first | (with_reducible first | exact HB.out | apply below_alloc | apply pw_below_drewN | apply below_drew1 | refine below_set ?_ GE143.out | refine below_set ?_ GE144.out | refine below_set ?_ GE145.out) | exact HB.out))) : w.heap.size ≤ gb147)); have n11_ := Aside0.mk ((by rw [hg]; exact (below_size (by repeat (first | (with_reducible first | exact HB.out | apply below_alloc | apply pw_below_drewN | apply below_drew1 | refine below_set ?_ GE143.out | refine below_set ?_ GE144.out | refine below_set ?_ GE145.out) | exact HB.out))) : w.heap.size ≤ gb147)); have n12_ := Aside0.mk ((by rw [hg]; exact Nat.ne_of_lt (blk_lt (g := gb143) (o := .cells #[.int .i64 a0_0, .int .i64 a0_1, .slice (some ad146) l0_2.length c0_2] 35 (0, 0)) (by (with_reducible repeat (first | refine blk_drewN ?_ _ | refine blk_drew ?_ | refine blk_alloc ?_ _)); exact BK143.out)) : gb143 ≠ gb147)); have n13_ := Aside0.mk ((by rw [hg]; exact Nat.ne_of_gt (blk_lt (g := gb143) (o := .cells #[.int .i64 a0_0, .int .i64 a0_1, .slice (some ad146) l0_2.length c0_2] 35 (0, 0)) (by (with_reducible repeat (first | refine blk_drewN ?_ _ | refine blk_drew ?_ | refine blk_alloc ?_ _)); exact BK143.out)) : gb147 ≠ gb143)); have n14_ := Aside0.mk ((by rw [hg]; exact Nat.ne_of_lt (blk_lt (g := gb144) (o := .cells #[.int .i64 0, .int .i64 0, .slice none 0 0] 24 (0, 0)) (by (with_reducible repeat (first | refine blk_drewN ?_ _ | refine blk_drew ?_ | refine blk_alloc ?_ _)); exact BK144.out)) : gb144 ≠ gb147)); have n15_ := Aside0.mk ((by rw [hg]; exact Nat.ne_of_gt (blk_lt (g := gb144) (o := .cells #[.int .i64 0, .int .i64 0, .slice none 0 0] 24 (0, 0)) (by (with_reducible repeat (first | refine blk_drewN ?_ _ | refine blk_drew ?_ | refine blk_alloc ?_ _)); exact BK144.out)) : gb147 ≠ gb144)); have n16_ := Aside0.mk ((by rw [hg]; exact Nat.ne_of_lt (blk_lt (g := gb145) (o := .cells #[.int .i64 a0_0, .int .i64 a0_1, u146002] 24 (0, 0)) (by (with_reducible repeat (first | refine blk_drewN ?_ _ | refine blk_drew ?_ | refine blk_alloc ?_ _)); exact BK145.out)) : gb145 ≠ gb147)); have n17_ := Aside0.mk ((by rw [hg]; exact Nat.ne_of_gt (blk_lt (g := gb145) (o := .cells #[.int .i64 a0_0, .int .i64 a0_1, u146002] 24 (0, 0)) (by (with_reducible repeat (first | refine blk_drewN ?_ _ | refine blk_drew ?_ | refine blk_alloc ?_ _)); exact BK145.out)) : gb147 ≠ gb145)); clear HO_12; clear HO_144002; clear HO_146002; clear HL146_3; clear BK143; clear BK144; clear BK145; clear HR146_3; clear HB; have HO_12 := n0_; have HO_144002 := n1_; have HO_146002 := n2_; have HL146_3 := n3_; have BK143 := n4_; have BK144 := n5_; have BK145 := n6_; have HR146_3 := n7_; have HB := n8_; have BK147 := n9_; have GW147 := n10_; have GE147 := n11_; have NB143_147 := n12_; have NB147_143 := n13_; have NB144_147 := n14_; have NB147_144 := n15_; have NB145_147 := n16_; have NB147_145 := n17_; clear n0_ n1_ n2_ n3_ n4_ n5_ n6_ n7_ n8_ n9_ n10_ n11_ n12_ n13_ n14_ n15_ n16_ n17_; clear hb hbox hg; have hnb16 := NB147_143.out; have hnc16 := NB143_147.out; have hnb17 := NB147_144.out; have hnc17 := NB144_147.out; have hnb18 := NB147_145.out; have hnc18 := NB145_147.out; have hcz19_0 : w15.cell? ⟨gb147, 0, none⟩ = some (.int .i64 0) := (blk_cell BK147.out 0).trans rfl; have hcz19_1 : w15.cell? ⟨gb147, 1, none⟩ = some (.int .i64 0) := (blk_cell BK147.out 1).trans rfl; have hcz19_2 : w15.cell? ⟨gb147, 2, none⟩ = some (.bool false) := (blk_cell BK147.out 2).trans rfl; have hcz19_3 : w15.cell? ⟨gb147, 3, none⟩ = some (.slice none 0 0) := (blk_cell BK147.out 3).trans rfl; have hfz19_0 := blk_frozen BK147.out 0; have hfz19_1 := blk_frozen BK147.out 1; have hfz19_2 := blk_frozen BK147.out 2; have hfz19_3 := blk_frozen BK147.out 3) | ((with_reducible refine gate_store (t := 61) (p := 5) rfl ?_); refine store_event (t := 61) (p := 5) (v := ?vo_w20) (w1 := ((((w15.setCell ⟨gb147, 0, none⟩ (.int .i64 ((rd_T61 l0_2 x14_1).f0))).setCell ⟨gb147, 1, none⟩ (.int .i64 ((rd_T61 l0_2 x14_1).f1))).setCell ⟨gb147, 2, none⟩ (.bool ((rd_T61 l0_2 x14_1).f2))).setCell ⟨gb147, 3, none⟩ (.slice A146_3 ((rd_T61 l0_2 x14_1).f3).length c146_3))) ?hg ?ho ?hn ?hr ?_; (case ho => rfl); (case hg => rfl); (case hn => rfl); (case hr => first | (go_simp; done) | (go_simp; rfl)); intro w20 hw; have n0_ : Aside0 (Kd.V k61 61 w20 w.heap.size (fun k_ => (P0_2_ k_ ∨ w.heap.size ≤ k_) ∧ some k_ ≠ (u146002 : Value).ownBlock ∧ k_ ≠ gb143 ∧ k_ ≠ gb144 ∧ k_ ≠ gb145 ∧ k_ ≠ gb147) (.slice (some ad146) l0_2.length c0_2) l0_2) := ⟨(by rw [hw]; exact (by (with_reducible repeat (first | apply Kd.V_alloc | apply Kd.V_drewN | apply Kd.V_drew)); exact Kd.V_mono (Kd.V_far (p := ⟨gb147, 3, none⟩) (Kd.V_far (p := ⟨gb147, 2, none⟩) (Kd.V_far (p := ⟨gb147, 1, none⟩) (Kd.V_far (p := ⟨gb147, 0, none⟩) (Kd.V_mono HO_12.out (fun k_ hk => (⟨hk, hk.2⟩ : _ ∧ k_ ≠ gb147))) (fun _ hk => hk.2) (.int .i64 ((rd_T61 l0_2 x14_1).f0))) (fun _ hk => hk.2) (.int .i64 ((rd_T61 l0_2 x14_1).f1))) (fun _ hk => hk.2) (.bool ((rd_T61 l0_2 x14_1).f2))) (fun _ hk => hk.2) (.slice A146_3 ((rd_T61 l0_2 x14_1).f3).length c146_3)) (fun _ hk => ⟨hk.1.1.1, ⟨hk.1.1.2.1, ⟨hk.1.1.2.2.1, ⟨hk.1.1.2.2.2.1, ⟨hk.1.1.2.2.2.2, hk.1.2⟩⟩⟩⟩⟩)))⟩; have n1_ : Aside0 (Kd.V k61 61 w20 w.heap.size (fun k_ => (P0_2_ k_ ∨ w.heap.size ≤ k_) ∧ some k_ ≠ (u146002 : Value).ownBlock ∧ k_ ≠ gb143 ∧ k_ ≠ gb144 ∧ k_ ≠ gb145 ∧ k_ ≠ gb147) (.slice (some ad146) l0_2.length c0_2) l0_2) := ⟨(by rw [hw]; exact (by (with_reducible repeat (first | apply Kd.V_alloc | apply Kd.V_drewN | apply Kd.V_drew)); exact Kd.V_mono (Kd.V_far (p := ⟨gb147, 3, none⟩) (Kd.V_far (p := ⟨gb147, 2, none⟩) (Kd.V_far (p := ⟨gb147, 1, none⟩) (Kd.V_far (p := ⟨gb147, 0, none⟩) (Kd.V_mono HO_144002.out (fun k_ hk => (⟨hk, hk.2⟩ : _ ∧ k_ ≠ gb147))) (fun _ hk => hk.2) (.int .i64 ((rd_T61 l0_2 x14_1).f0))) (fun _ hk => hk.2) (.int .i64 ((rd_T61 l0_2 x14_1).f1))) (fun _ hk => hk.2) (.bool ((rd_T61 l0_2 x14_1).f2))) (fun _ hk => hk.2) (.slice A146_3 ((rd_T61 l0_2 x14_1).f3).length c146_3)) (fun _ hk => ⟨hk.1.1.1, ⟨hk.1.1.2.1, ⟨hk.1.1.2.2.1, ⟨hk.1.1.2.2.2.1, ⟨hk.1.1.2.2.2.2, hk.1.2⟩⟩⟩⟩⟩)))⟩; have n2_ : Aside0 (Kd.N k65 65 w20 w.heap.size (fun k_ => (P0_2_ k_ ∨ w.heap.size ≤ k_) ∧ k_ ≠ gb143 ∧ k_ ≠ gb144 ∧ k_ ≠ gb145 ∧ k_ ≠ gb147) u146002 x146002_1) := ⟨(by rw [hw]; exact (by (with_reducible repeat (first | apply Kd.N_alloc | apply Kd.N_drewN | apply Kd.N_drew)); exact Kd.N_mono (Kd.N_far (p := ⟨gb147, 3, none⟩) (Kd.N_far (p := ⟨gb147, 2, none⟩) (Kd.N_far (p := ⟨gb147, 1, none⟩) (Kd.N_far (p := ⟨gb147, 0, none⟩) (Kd.N_mono HO_146002.out (fun k_ hk => (⟨hk, hk.2⟩ : _ ∧ k_ ≠ gb147))) (fun _ hk => hk.2) (.int .i64 ((rd_T61 l0_2 x14_1).f0))) (fun _ hk => hk.2) (.int .i64 ((rd_T61 l0_2 x14_1).f1))) (fun _ hk => hk.2) (.bool ((rd_T61 l0_2 x14_1).f2))) (fun _ hk => hk.2) (.slice A146_3 ((rd_T61 l0_2 x14_1).f3).length c146_3)) (fun _ hk => ⟨hk.1.1.1, ⟨hk.1.1.2.1, ⟨hk.1.1.2.2.1, ⟨hk.1.1.2.2.2, hk.1.2⟩⟩⟩⟩)))⟩; have n3_ : Aside0 (Kd.V (Kd.int .u8) 5 w20 w.heap.size (fun k_ => (P0_2_ k_ ∨ w.heap.size ≤ k_) ∧ some k_ ≠ (u146002 : Value).ownBlock ∧ k_ ≠ gb143 ∧ k_ ≠ gb144 ∧ k_ ≠ gb145 ∧ k_ ≠ gb147) (.slice A146_3 ((rd_T61 l0_2 x14_1).f3).length c146_3) ((rd_T61 l0_2 x14_1).f3)) := ⟨(by rw [hw]; exact (by (with_reducible repeat (first | apply Kd.V_alloc | apply Kd.V_drewN | apply Kd.V_drew)); exact Kd.V_mono (Kd.V_far (p := ⟨gb147, 3, none⟩) (Kd.V_far (p := ⟨gb147, 2, none⟩) (Kd.V_far (p := ⟨gb147, 1, none⟩) (Kd.V_far (p := ⟨gb147, 0, none⟩) (Kd.V_mono HL146_3.out (fun k_ hk => (⟨hk, hk.2⟩ : _ ∧ k_ ≠ gb147))) (fun _ hk => hk.2) (.int .i64 ((rd_T61 l0_2 x14_1).f0))) (fun _ hk => hk.2) (.int .i64 ((rd_T61 l0_2 x14_1).f1))) (fun _ hk => hk.2) (.bool ((rd_T61 l0_2 x14_1).f2))) (fun _ hk => hk.2) (.slice A146_3 ((rd_T61 l0_2 x14_1).f3).length c146_3)) (fun _ hk => ⟨hk.1.1.1, ⟨hk.1.1.2.1, ⟨hk.1.1.2.2.1, ⟨hk.1.1.2.2.2.1, ⟨hk.1.1.2.2.2.2, hk.1.2⟩⟩⟩⟩⟩)))⟩; have n4_ : Aside0 (w20.heap[gb143]? = some (.cells #[.int .i64 a0_0, .int .i64 a0_1, .slice (some ad146) l0_2.length c0_2] 35 (0, 0))) := ⟨(by rw [hw]; exact (by (with_reducible repeat (first | refine blk_drewN ?_ _ | refine blk_drew ?_ | refine blk_alloc ?_ _)); refine blk_far ?_ NB143_147.out _; (with_reducible repeat (first | refine blk_drewN ?_ _ | refine blk_drew ?_ | refine blk_alloc ?_ _)); refine blk_far ?_ NB143_147.out _; (with_reducible repeat (first | refine blk_drewN ?_ _ | refine blk_drew ?_ | refine blk_alloc ?_ _)); refine blk_far ?_ NB143_147.out _; (with_reducible repeat (first | refine blk_drewN ?_ _ | refine blk_drew ?_ | refine blk_alloc ?_ _)); refine blk_far ?_ NB143_147.out _; (with_reducible repeat (first | refine blk_drewN ?_ _ | refine blk_drew ?_ | refine blk_alloc ?_ _)); exact BK143.out))⟩; have n5_ : Aside0 (w20.heap[gb144]? = some (.cells #[.int .i64 0, .int .i64 0, .slice none 0 0] 24 (0, 0))) := ⟨(by rw [hw]; exact (by (with_reducible repeat (first | refine blk_drewN ?_ _ | refine blk_drew ?_ | refine blk_alloc ?_ _)); refine blk_far ?_ NB144_147.out _; (with_reducible repeat (first | refine blk_drewN ?_ _ | refine blk_drew ?_ | refine blk_alloc ?_ _)); refine blk_far ?_ NB144_147.out _; (with_reducible repeat (first | refine blk_drewN ?_ _ | refine blk_drew ?_ | refine blk_alloc ?_ _)); refine blk_far ?_ NB144_147.out _; (with_reducible repeat (first | refine blk_drewN ?_ _ | refine blk_drew ?_ | refine blk_alloc ?_ _)); refine blk_far ?_ NB144_147.out _; (with_reducible repeat (first | refine blk_drewN ?_ _ | refine blk_drew ?_ | refine blk_alloc ?_ _)); exact BK144.out))⟩; have n6_ : Aside0 (w20.heap[gb145]? = some (.cells #[.int .i64 a0_0, .int .i64 a0_1, u146002] 24 (0, 0))) := ⟨(by rw [hw]; exact (by (with_reducible repeat (first | refine blk_drewN ?_ _ | refine blk_drew ?_ | refine blk_alloc ?_ _)); refine blk_far ?_ NB145_147.out _; (with_reducible repeat (first | refine blk_drewN ?_ _ | refine blk_drew ?_ | refine blk_alloc ?_ _)); refine blk_far ?_ NB145_147.out _; (with_reducible repeat (first | refine blk_drewN ?_ _ | refine blk_drew ?_ | refine blk_alloc ?_ _)); refine blk_far ?_ NB145_147.out _; (with_reducible repeat (first | refine blk_drewN ?_ _ | refine blk_drew ?_ | refine blk_alloc ?_ _)); refine blk_far ?_ NB145_147.out _; (with_reducible repeat (first | refine blk_drewN ?_ _ | refine blk_drew ?_ | refine blk_alloc ?_ _)); exact BK145.out))⟩; have n7_ : Aside0 (w20.heap[gb147]? = some (.cells #[.int .i64 ((rd_T61 l0_2 x14_1).f0), .int .i64 ((rd_T61 l0_2 x14_1).f1), .bool ((rd_T61 l0_2 x14_1).f2), .slice A146_3 ((rd_T61 l0_2 x14_1).f3).length c146_3] 61 (0, 0))) := ⟨(by rw [hw]; exact (by (with_reducible repeat (first | refine blk_drewN ?_ _ | refine blk_drew ?_ | refine blk_alloc ?_ _)); refine blk_put (cs := #[.int .i64 ((rd_T61 l0_2 x14_1).f0), .int .i64 ((rd_T61 l0_2 x14_1).f1), .bool ((rd_T61 l0_2 x14_1).f2), .slice none 0 0]) ?_ 3 _ rfl; (with_reducible repeat (first | refine blk_drewN ?_ _ | refine blk_drew ?_ | refine blk_alloc ?_ _)); refine blk_put (cs := #[.int .i64 ((rd_T61 l0_2 x14_1).f0), .int .i64 ((rd_T61 l0_2 x14_1).f1), .bool false, .slice none 0 0]) ?_ 2 _ rfl; (with_reducible repeat (first | refine blk_drewN ?_ _ | refine blk_drew ?_ | refine blk_alloc ?_ _)); refine blk_put (cs := #[.int .i64 ((rd_T61 l0_2 x14_1).f0), .int .i64 0, .bool false, .slice none 0 0]) ?_ 1 _ rfl; (with_reducible repeat (first | refine blk_drewN ?_ _ | refine blk_drew ?_ | refine blk_alloc ?_ _)); refine blk_put (cs := #[.int .i64 0, .int .i64 0, .bool false, .slice none 0 0]) ?_ 0 _ rfl; (with_reducible repeat (first | refine blk_drewN ?_ _ | refine blk_drew ?_ | refine blk_alloc ?_ _)); exact BK147.out))⟩; have n8_ : Aside0 (Below w.heap.size w w20) := ⟨(by rw [hw]; exact (by repeat (first | (with_reducible first | exact HB.out | apply below_alloc | apply pw_below_drewN | apply below_drew1 | refine below_set ?_ GE143.out | refine below_set ?_ GE144.out | refine below_set ?_ GE145.out | refine below_set ?_ GE147.out) | exact HB.out)))⟩; clear hw; clear HO_12; clear HO_144002; clear HO_146002; clear HL146_3; clear BK143; clear BK144; clear BK145; clear BK147; clear HB; have HO_12 := n0_; have HO_144002 := n1_; have HO_146002 := n2_; have HL146_3 := n3_; have BK143 := n4_; have BK144 := n5_; have BK145 := n6_; have BK147 := n7_; have HB := n8_; clear n0_ n1_ n2_ n3_ n4_ n5_ n6_ n7_ n8_; have hnb21 := NB145_143.out; have hnc21 := NB143_145.out; have hnb22 := NB145_144.out; have hnc22 := NB144_145.out; have hcz23_0 : w20.cell? ⟨gb145, 0, none⟩ = some (.int .i64 a0_0) := (blk_cell BK145.out 0).trans rfl; have hcz23_1 : w20.cell? ⟨gb145, 1, none⟩ = some (.int .i64 a0_1) := (blk_cell BK145.out 1).trans rfl; have hcz23_2 : w20.cell? ⟨gb145, 2, none⟩ = some (u146002) := (blk_cell BK145.out 2).trans rfl; have hfz23_0 := blk_frozen BK145.out 0; have hfz23_1 := blk_frozen BK145.out 1; have hfz23_2 := blk_frozen BK145.out 2; have hcz24_0 : w20.cell? ⟨gb147, 0, none⟩ = some (.int .i64 ((rd_T61 l0_2 x14_1).f0)) := (blk_cell BK147.out 0).trans rfl; have hcz24_1 : w20.cell? ⟨gb147, 1, none⟩ = some (.int .i64 ((rd_T61 l0_2 x14_1).f1)) := (blk_cell BK147.out 1).trans rfl; have hcz24_2 : w20.cell? ⟨gb147, 2, none⟩ = some (.bool ((rd_T61 l0_2 x14_1).f2)) := (blk_cell BK147.out 2).trans rfl; have hcz24_3 : w20.cell? ⟨gb147, 3, none⟩ = some (.slice A146_3 ((rd_T61 l0_2 x14_1).f3).length c146_3) := (blk_cell BK147.out 3).trans rfl; have hfz24_0 := blk_frozen BK147.out 0; have hfz24_1 := blk_frozen BK147.out 1; have hfz24_2 := blk_frozen BK147.out 2; have hfz24_3 := blk_frozen BK147.out 3) | ((with_reducible refine gate_builtin (b := .append) (xs := #[.tmp 19, .tmp 29]) rfl ?_); at_builtin; refine Kd.N_append k65 (w0 := w) w.heap.size rfl (.tmp 19) (.tmp 29) 22 65 (.agg #[(.int .i64 0), (.int .i64 0), (.bool false), (.slice none 0 0)]) 48 rfl Try.underlying22 info65 rfl (by decide) (by omega) u146002 x146002_1 (⟨(rd_T61 l0_2 x14_1).f0, (rd_T61 l0_2 x14_1).f1, (rd_T61 l0_2 x14_1).f2, (rd_T61 l0_2 x14_1).f3⟩ : S65) [.int .i64 ((rd_T61 l0_2 x14_1).f0), .int .i64 ((rd_T61 l0_2 x14_1).f1), .bool ((rd_T61 l0_2 x14_1).f2), .slice A146_3 ((rd_T61 l0_2 x14_1).f3).length c146_3] (fun k_ => (P0_2_ k_ ∨ w.heap.size ≤ k_) ∧ k_ ≠ gb143 ∧ k_ ≠ gb144 ∧ k_ ≠ gb145 ∧ k_ ≠ gb147) (fun k_ => ((fun k_ => (P0_2_ k_ ∨ w.heap.size ≤ k_) ∧ k_ ≠ gb143 ∧ k_ ≠ gb144 ∧ k_ ≠ gb145 ∧ k_ ≠ gb147)) k_ ∧ some k_ ≠ (u146002 : Value).ownBlock) rfl rfl ?aP (fun _ hk => hk) ?aF ?aO ?aB ?aS ?aL ?_; (case aP => exact (k65_mkF _ _ (⟨(rd_T61 l0_2 x14_1).f0, (rd_T61 l0_2 x14_1).f1, (rd_T61 l0_2 x14_1).f2, (rd_T61 l0_2 x14_1).f3⟩ : S65) (Kd.V_reads' (Kd.V_mono (ok' := (fun k_ => ((fun k_ => (P0_2_ k_ ∨ w.heap.size ≤ k_) ∧ k_ ≠ gb143 ∧ k_ ≠ gb144 ∧ k_ ≠ gb145 ∧ k_ ≠ gb147)) k_ ∧ some k_ ≠ (u146002 : Value).ownBlock)) (HL146_3.out) (fun k_ hk => ⟨⟨hk.1, ⟨hk.2.2.1, ⟨hk.2.2.2.1, ⟨hk.2.2.2.2.1, hk.2.2.2.2.2⟩⟩⟩⟩, hk.2.1⟩))).2.1 (Kd.V_F (Kd.V_mono (ok' := (fun k_ => ((fun k_ => (P0_2_ k_ ∨ w.heap.size ≤ k_) ∧ k_ ≠ gb143 ∧ k_ ≠ gb144 ∧ k_ ≠ gb145 ∧ k_ ≠ gb147)) k_ ∧ some k_ ≠ (u146002 : Value).ownBlock)) (HL146_3.out) (fun k_ hk => ⟨⟨hk.1, ⟨hk.2.2.1, ⟨hk.2.2.2.1, ⟨hk.2.2.2.2.1, hk.2.2.2.2.2⟩⟩⟩⟩, hk.2.1⟩))))); (case aB => exact (by repeat (first | (with_reducible first | exact HB.out | apply below_alloc | apply pw_below_drewN | apply below_drew1 | refine below_set ?_ GE143.out | refine below_set ?_ GE144.out | refine below_set ?_ GE145.out | refine below_set ?_ GE147.out) | exact HB.out))); (case aF => exact (fun k_ hk => ⟨(.inr (Nat.le_trans (below_size (by repeat (first | (with_reducible first | exact HB.out | apply below_alloc | apply pw_below_drewN | apply below_drew1 | refine below_set ?_ GE143.out | refine below_set ?_ GE144.out | refine below_set ?_ GE145.out | refine below_set ?_ GE147.out) | exact HB.out))) hk)), Kd.freshB (g := gb143) (o := .cells #[.int .i64 a0_0, .int .i64 a0_1, .slice (some ad146) l0_2.length c0_2] 35 (0, 0)) (by (with_reducible repeat (first | refine blk_drewN ?_ _ | refine blk_drew ?_ | refine blk_alloc ?_ _)); exact BK143.out) k_ hk, Kd.freshB (g := gb144) (o := .cells #[.int .i64 0, .int .i64 0, .slice none 0 0] 24 (0, 0)) (by (with_reducible repeat (first | refine blk_drewN ?_ _ | refine blk_drew ?_ | refine blk_alloc ?_ _)); exact BK144.out) k_ hk, Kd.freshB (g := gb145) (o := .cells #[.int .i64 a0_0, .int .i64 a0_1, u146002] 24 (0, 0)) (by (with_reducible repeat (first | refine blk_drewN ?_ _ | refine blk_drew ?_ | refine blk_alloc ?_ _)); exact BK145.out) k_ hk, Kd.freshB (g := gb147) (o := .cells #[.int .i64 ((rd_T61 l0_2 x14_1).f0), .int .i64 ((rd_T61 l0_2 x14_1).f1), .bool ((rd_T61 l0_2 x14_1).f2), .slice A146_3 ((rd_T61 l0_2 x14_1).f3).length c146_3] 61 (0, 0)) (by (with_reducible repeat (first | refine blk_drewN ?_ _ | refine blk_drew ?_ | refine blk_alloc ?_ _)); exact BK147.out) k_ hk⟩)); (case aO => exact (by (with_reducible repeat (first | apply Kd.N_alloc | apply Kd.N_drewN | apply Kd.N_drew)); exact HO_146002.out)); (case aS => exact (below_size (by repeat (first | (with_reducible first | exact HB.out | apply below_alloc | apply pw_below_drewN | apply below_drew1 | refine below_set ?_ GE143.out | refine below_set ?_ GE144.out | refine below_set ?_ GE145.out | refine below_set ?_ GE147.out) | exact HB.out)))); (case aL => have := LMc14.out; omega); intro v149 w25 ho hb hg hat; rw [← Ny148.out] at ho; have n0_ := Aside0.mk (Kd.V_afterv (ok := (fun k_ => (P0_2_ k_ ∨ w.heap.size ≤ k_) ∧ k_ ≠ gb143 ∧ k_ ≠ gb144 ∧ k_ ≠ gb145 ∧ k_ ≠ gb147)) (by (with_reducible repeat (first | apply Kd.V_alloc | apply Kd.V_drewN | apply Kd.V_drew)); exact Kd.V_mono HO_12.out (fun _ hk => ⟨⟨hk.1, ⟨hk.2.2.1, ⟨hk.2.2.2.1, ⟨hk.2.2.2.2.1, hk.2.2.2.2.2⟩⟩⟩⟩, hk.2.1⟩)) hg hat); have n1_ := Aside0.mk (Kd.V_afterv (ok := (fun k_ => (P0_2_ k_ ∨ w.heap.size ≤ k_) ∧ k_ ≠ gb143 ∧ k_ ≠ gb144 ∧ k_ ≠ gb145 ∧ k_ ≠ gb147)) (by (with_reducible repeat (first | apply Kd.V_alloc | apply Kd.V_drewN | apply Kd.V_drew)); exact Kd.V_mono HO_144002.out (fun _ hk => ⟨⟨hk.1, ⟨hk.2.2.1, ⟨hk.2.2.2.1, ⟨hk.2.2.2.2.1, hk.2.2.2.2.2⟩⟩⟩⟩, hk.2.1⟩)) hg hat); have n2_ := Aside0.mk (blk_grown (g := gb143) (o := .cells #[.int .i64 a0_0, .int .i64 a0_1, .slice (some ad146) l0_2.length c0_2] 35 (0, 0)) (by (with_reducible repeat (first | refine blk_drewN ?_ _ | refine blk_drew ?_ | refine blk_alloc ?_ _)); exact BK143.out) hg (Kd.N_ne HO_146002.out BK143.out (by decide))); have n3_ := Aside0.mk (blk_grown (g := gb144) (o := .cells #[.int .i64 0, .int .i64 0, .slice none 0 0] 24 (0, 0)) (by (with_reducible repeat (first | refine blk_drewN ?_ _ | refine blk_drew ?_ | refine blk_alloc ?_ _)); exact BK144.out) hg (Kd.N_ne HO_146002.out BK144.out (by decide))); have n4_ := Aside0.mk (blk_grown (g := gb145) (o := .cells #[.int .i64 a0_0, .int .i64 a0_1, u146002] 24 (0, 0)) (by (with_reducible repeat (first | refine blk_drewN ?_ _ | refine blk_drew ?_ | refine blk_alloc ?_ _)); exact BK145.out) hg (Kd.N_ne HO_146002.out BK145.out (by decide))); have n5_ := Aside0.mk (Kd.V_afterv (ok := (fun k_ => (P0_2_ k_ ∨ w.heap.size ≤ k_) ∧ k_ ≠ gb143 ∧ k_ ≠ gb144 ∧ k_ ≠ gb145 ∧ k_ ≠ gb147)) (by (with_reducible repeat (first | apply Kd.V_alloc | apply Kd.V_drewN | apply Kd.V_drew)); exact Kd.V_mono HL146_3.out (fun _ hk => ⟨⟨hk.1, ⟨hk.2.2.1, ⟨hk.2.2.2.1, ⟨hk.2.2.2.2.1, hk.2.2.2.2.2⟩⟩⟩⟩, hk.2.1⟩)) hg hat); have n6_ := Aside0.mk (blk_grown (g := gb147) (o := .cells #[.int .i64 ((rd_T61 l0_2 x14_1).f0), .int .i64 ((rd_T61 l0_2 x14_1).f1), .bool ((rd_T61 l0_2 x14_1).f2), .slice A146_3 ((rd_T61 l0_2 x14_1).f3).length c146_3] 61 (0, 0)) (by (with_reducible repeat (first | refine blk_drewN ?_ _ | refine blk_drew ?_ | refine blk_alloc ?_ _)); exact BK147.out) hg (Kd.N_ne HO_146002.out BK147.out (by decide))); have n7_ := Aside0.mk (hb); have n8_ := Aside0.mk (ho); clear HO_12; clear HO_144002; clear BK143; clear BK144; clear BK145; clear HL146_3; clear BK147; clear HB; clear HO_146002; have HO_12 := n0_; have HO_144002 := n1_; have BK143 := n2_; have BK144 := n3_; have BK145 := n4_; have HL146_3 := n5_; have BK147 := n6_; have HB := n7_; have HO150 := n8_; clear n0_ n1_ n2_ n3_ n4_ n5_ n6_ n7_ n8_; clear ho hb hg hat; obtain ⟨Ao26, co26, eo26⟩ := Kd.N_slice HO150.out; subst eo26; have hcz27_0 : w25.cell? ⟨gb145, 0, none⟩ = some (.int .i64 a0_0) := (blk_cell BK145.out 0).trans rfl; have hcz27_1 : w25.cell? ⟨gb145, 1, none⟩ = some (.int .i64 a0_1) := (blk_cell BK145.out 1).trans rfl; have hcz27_2 : w25.cell? ⟨gb145, 2, none⟩ = some (u146002) := (blk_cell BK145.out 2).trans rfl; have hfz27_0 := blk_frozen BK145.out 0; have hfz27_1 := blk_frozen BK145.out 1; have hfz27_2 := blk_frozen BK145.out 2))
              go_roundg k1
              case measure => have := HK1.out; omega
              case rel => exact ⟨(wrap64 (x14_1 + 1)), (y148), (.slice Ao26 y148.length co26), (by first | rfl | (simp; done) | (simp [*]; done)), H', ⟨by have := HK1.out; omega⟩, ⟨by (with_reducible repeat (first | apply Kd.V_alloc | apply Kd.V_drewN | apply Kd.V_drew)); exact Kd.V_mono (Kd.V_far (p := ⟨gb145, 2, none⟩) (Kd.V_mono HO_12.out (fun k_ hk => (⟨hk, hk.1.2.2.2.1⟩ : _ ∧ k_ ≠ gb145))) (fun _ hk => hk.2) (.slice Ao26 y148.length co26)) (fun _ hk => ⟨hk.1.1.1, ⟨hk.1.2, ⟨hk.1.1.2.1, ⟨hk.1.1.2.2.1, hk.1.1.2.2.2.1⟩⟩⟩⟩)⟩, ⟨by (with_reducible repeat (first | apply Kd.V_alloc | apply Kd.V_drewN | apply Kd.V_drew)); exact Kd.V_mono (Kd.V_far (p := ⟨gb145, 2, none⟩) (Kd.V_mono HO_144002.out (fun k_ hk => (⟨hk, hk.1.2.2.2.1⟩ : _ ∧ k_ ≠ gb145))) (fun _ hk => hk.2) (.slice Ao26 y148.length co26)) (fun _ hk => ⟨hk.1.1.1, ⟨hk.1.2, ⟨hk.1.1.2.1, ⟨hk.1.1.2.2.1, hk.1.1.2.2.2.1⟩⟩⟩⟩)⟩, ⟨by (with_reducible repeat (first | apply Kd.N_alloc | apply Kd.N_drewN | apply Kd.N_drew)); exact Kd.N_mono (Kd.N_far (p := ⟨gb145, 2, none⟩) (Kd.N_mono HO150.out (fun k_ hk => (⟨hk, hk.2.2.2.1⟩ : _ ∧ k_ ≠ gb145))) (fun _ hk => hk.2) (.slice Ao26 y148.length co26)) (fun _ hk => ⟨hk.1.1, ⟨hk.1.2.1, ⟨hk.1.2.2.1, hk.1.2.2.2.1⟩⟩⟩)⟩, ⟨by (with_reducible repeat (first | refine blk_drewN ?_ _ | refine blk_drew ?_ | refine blk_alloc ?_ _)); refine blk_far ?_ NB143_145.out _; (with_reducible repeat (first | refine blk_drewN ?_ _ | refine blk_drew ?_ | refine blk_alloc ?_ _)); exact BK143.out⟩, ⟨by (with_reducible repeat (first | refine blk_drewN ?_ _ | refine blk_drew ?_ | refine blk_alloc ?_ _)); refine blk_far ?_ NB144_145.out _; (with_reducible repeat (first | refine blk_drewN ?_ _ | refine blk_drew ?_ | refine blk_alloc ?_ _)); exact BK144.out⟩, ⟨by (with_reducible repeat (first | refine blk_drewN ?_ _ | refine blk_drew ?_ | refine blk_alloc ?_ _)); refine blk_put (cs := #[.int .i64 a0_0, .int .i64 a0_1, u146002]) ?_ 2 _ rfl; (with_reducible repeat (first | refine blk_drewN ?_ _ | refine blk_drew ?_ | refine blk_alloc ?_ _)); exact BK145.out⟩, ⟨by repeat (first | (with_reducible first | exact HB.out | apply below_alloc | apply pw_below_drewN | apply below_drew1 | refine below_set ?_ GE143.out | refine below_set ?_ GE144.out | refine below_set ?_ GE145.out | refine below_set ?_ GE147.out) | exact HB.out)⟩⟩
            · rw [if_neg c14] at H
              exact absurd H (by simp)
          · rw [if_neg c13] at H
            exact absurd H (by simp)
        · rw [if_neg c12] at H
          exact absurd H (by simp)
      · rw [if_neg c11] at H
        have c11b0 : decide (x14_1 < (l0_2.length : Int)) = false := decide_eq_false c11
        clear c11
        simp only [Option.some.injEq, Prod.mk.injEq] at H
        obtain ⟨rfl, rfl, rfl⟩ := H
        have hnb28 := NB145_143.out
        have hnc28 := NB143_145.out
        have hnb29 := NB145_144.out
        have hnc29 := NB144_145.out
        have hcz30_0 : wr.cell? ⟨gb145, 0, none⟩ = some (.int .i64 a0_0) := (blk_cell BK145.out 0).trans rfl
        have hcz30_1 : wr.cell? ⟨gb145, 1, none⟩ = some (.int .i64 a0_1) := (blk_cell BK145.out 1).trans rfl
        have hcz30_2 : wr.cell? ⟨gb145, 2, none⟩ = some (u146002) := (blk_cell BK145.out 2).trans rfl
        have hfz30_0 := blk_frozen BK145.out 0
        have hfz30_1 := blk_frozen BK145.out 1
        have hfz30_2 := blk_frozen BK145.out 2
        have hnb31 := NB144_143.out
        have hnc31 := NB143_144.out
        have hcz32_0 : wr.cell? ⟨gb144, 0, none⟩ = some (.int .i64 0) := (blk_cell BK144.out 0).trans rfl
        have hcz32_1 : wr.cell? ⟨gb144, 1, none⟩ = some (.int .i64 0) := (blk_cell BK144.out 1).trans rfl
        have hcz32_2 : wr.cell? ⟨gb144, 2, none⟩ = some (.slice none 0 0) := (blk_cell BK144.out 2).trans rfl
        have hfz32_0 := blk_frozen BK144.out 0
        have hfz32_1 := blk_frozen BK144.out 1
        have hfz32_2 := blk_frozen BK144.out 2
        obtain ⟨Ao33, co33, eo33⟩ := Kd.N_slice HO_146002.out
        subst eo33
        go_wp2
        refine bodyPost_ret (results_cell_row rfl _ _ gb144 24 #[.int .i64 a0_0, .int .i64 a0_1, .slice Ao33 x146002_1.length co33] (0, 0) _ rfl (by (with_reducible repeat (first | refine blk_drewN ?_ _ | refine blk_drew ?_ | refine blk_alloc ?_ _)); refine blk_put (cs := #[.int .i64 a0_0, .int .i64 a0_1, .slice none 0 0]) ?_ 2 _ rfl; (with_reducible repeat (first | refine blk_drewN ?_ _ | refine blk_drew ?_ | refine blk_alloc ?_ _)); refine blk_put (cs := #[.int .i64 a0_0, .int .i64 0, .slice none 0 0]) ?_ 1 _ rfl; (with_reducible repeat (first | refine blk_drewN ?_ _ | refine blk_drew ?_ | refine blk_alloc ?_ _)); refine blk_put (cs := #[.int .i64 0, .int .i64 0, .slice none 0 0]) ?_ 0 _ rfl; (with_reducible repeat (first | refine blk_drewN ?_ _ | refine blk_drew ?_ | refine blk_alloc ?_ _)); exact BK144.out) Try.underlying24 rfl (by kernel_rfl)) rfl ?_
        exact ⟨_, by first | rfl | (simp [errW_none, errW_some] <;> rfl) | (simp [*, errW_none, errW_some] <;> rfl), by (with_reducible repeat (first | apply Kd.N_alloc | apply Kd.N_drewN | apply Kd.N_drew)); exact Kd.N_mono (Kd.N_far (p := ⟨gb144, 2, none⟩) (Kd.N_far (p := ⟨gb144, 1, none⟩) (Kd.N_far (p := ⟨gb144, 0, none⟩) (Kd.N_mono HO_146002.out (fun k_ hk => (⟨hk, hk.2.2.1⟩ : _ ∧ k_ ≠ gb144))) (fun _ hk => hk.2) (.int .i64 a0_0)) (fun _ hk => hk.2) (.int .i64 a0_1)) (fun _ hk => hk.2) (.slice Ao33 x146002_1.length co33)) (fun _ hk => hk.1.1), by repeat (first | (with_reducible first | exact HB.out | apply below_alloc | apply pw_below_drewN | apply below_drew1 | refine below_set ?_ GE143.out | refine below_set ?_ GE144.out | refine below_set ?_ GE145.out) | exact HB.out)⟩

-- AUX facts17
theorem same_refl (l : List Int) : laminanum_Same.f l l = some true := by simp [laminanum_Same.f]
theorem rdR_mem (l : List S65) (i : Nat) (h : i < l.length) : rd_T65 l i = l[i] := by simp [rd_T65, h]
theorem large_go (l : List S65) (hl : l.length ≤ 40) : ∀ (m i k : Nat), i + m = l.length → m < k → ∃ r, laminalaw17_large.l0 k l (l.length : Int) i = some r ∧ (r = false → ∀ x ∈ l.drop i, x.f3.length ≤ 1000) := by
  intro m
  induction m with
  | zero =>
    intro i k hi hk
    obtain ⟨k, rfl⟩ : ∃ k', k = k' + 1 := ⟨k - 1, by omega⟩
    refine ⟨false, by rw [laminalaw17_large.l0, if_neg (by omega)], fun _ x hx => ?_⟩
    rw [List.drop_eq_nil_of_le (by omega)] at hx
    cases hx
  | succ m ih =>
    intro i k hi hk
    obtain ⟨k, rfl⟩ : ∃ k', k = k' + 1 := ⟨k - 1, by omega⟩
    have e : wrap64 ((i : Int) + 1) = ((i + 1 : Nat) : Int) := by unfold wrap64; omega
    rw [laminalaw17_large.l0, if_pos (by omega), if_pos (by omega), if_pos (by omega), e, rdR_mem l i (by omega), List.drop_eq_getElem_cons (show i < l.length by omega)]
    by_cases h : ((l[i]).f3.length : Int) > 1000
    · rw [if_pos h]; exact ⟨true, rfl, fun h => by cases h⟩
    · rw [if_neg h]
      obtain ⟨r, h1, h2⟩ := ih (i + 1) k (by omega) (by omega)
      refine ⟨r, h1, fun hr x hx => ?_⟩
      rcases List.mem_cons.1 hx with rfl | hx
      · omega
      · exact h2 hr x hx
theorem large_f (F T : Int) (l : List S65) : ∃ r, laminalaw17_large.f 50 F T l = some r ∧ (r = false → l.length ≤ 40 ∧ ∀ x ∈ l, x.f3.length ≤ 1000) := by
  unfold laminalaw17_large.f
  by_cases h : (l.length : Int) > 40
  · rw [if_pos h]; exact ⟨true, rfl, fun h => by cases h⟩
  · rw [if_neg h]
    obtain ⟨r, h1, h2⟩ := large_go l (by omega) l.length 0 50 (by omega) (by omega)
    exact ⟨r, h1, fun hr => ⟨by omega, by simpa using h2 hr⟩⟩
theorem program_go (l : List S65) (hl : l.length ≤ 40) (hd : ∀ x ∈ l, x.f3.length ≤ 1000) (F T : Int) : ∀ (m i k : Nat) (acc : List S61), i + m = l.length → m < k → acc.length ≤ i → laminalaw17_program.l0 k l (l.length : Int) i F T acc = some (F, T, acc ++ (l.drop i).map toP) := by
  intro m
  induction m with
  | zero =>
    intro i k acc hi hk ha
    obtain ⟨k, rfl⟩ : ∃ k', k = k' + 1 := ⟨k - 1, by omega⟩
    rw [laminalaw17_program.l0, if_neg (by omega), List.drop_eq_nil_of_le (by omega)]
    simp
  | succ m ih =>
    intro i k acc hi hk ha
    obtain ⟨k, rfl⟩ : ∃ k', k = k' + 1 := ⟨k - 1, by omega⟩
    have e : wrap64 ((i : Int) + 1) = ((i + 1 : Nat) : Int) := by unfold wrap64; omega
    have hx := hd l[i] (List.getElem_mem (by omega))
    rw [laminalaw17_program.l0, if_pos (by omega), if_pos (by omega), if_pos (by omega), e, rdR_mem l i (by omega), List.drop_eq_getElem_cons (show i < l.length by omega)]
    simp only [Option.bind_some, List.length_nil, List.nil_append]
    rw [if_pos (by omega), if_pos (by omega), ih (i + 1) k _ (by omega) (by omega) (by simp; omega)]
    simp only [List.map_cons, List.append_assoc, List.singleton_append]
    rfl
theorem program_f (F T : Int) (l : List S65) (hl : l.length ≤ 40) (hd : ∀ x ∈ l, x.f3.length ≤ 1000) : laminalaw17_program.f 50 F T l = some (F, T, l.map toP) := by
  have := program_go l hl hd F T l.length 0 50 [] (by omega) (by omega) (by simp)
  simpa [laminalaw17_program.f] using this
theorem rdP_mem (l : List S61) (i : Nat) (h : i < l.length) : rd_T61 l i = l[i] := by simp [rd_T61, h]
theorem plain_go (l : List S61) (hl : l.length ≤ 4999) (F T : Int) : ∀ (m i k : Nat) (acc : List S65), i + m = l.length → m < k → acc.length ≤ i → laminalaw17_plain.l0 k l (l.length : Int) i F T acc = some (F, T, acc ++ (l.drop i).map toR) := by
  intro m
  induction m with
  | zero =>
    intro i k acc hi hk ha
    obtain ⟨k, rfl⟩ : ∃ k', k = k' + 1 := ⟨k - 1, by omega⟩
    rw [laminalaw17_plain.l0, if_neg (by omega), List.drop_eq_nil_of_le (by omega)]
    simp
  | succ m ih =>
    intro i k acc hi hk ha
    obtain ⟨k, rfl⟩ : ∃ k', k = k' + 1 := ⟨k - 1, by omega⟩
    have e : wrap64 ((i : Int) + 1) = ((i + 1 : Nat) : Int) := by unfold wrap64; omega
    rw [laminalaw17_plain.l0, if_pos (by omega), if_pos (by omega), if_pos (by omega), e, rdP_mem l i (by omega), List.drop_eq_getElem_cons (show i < l.length by omega)]
    rw [if_pos (by omega), ih (i + 1) k _ (by omega) (by omega) (by simp; omega)]
    simp only [List.map_cons, List.append_assoc, List.singleton_append]
    rfl
theorem plain_f (F T : Int) (l : List S61) (hl : l.length ≤ 4999) : laminalaw17_plain.f 5000 F T l = some (F, T, l.map toR) := by
  have := plain_go l hl F T l.length 0 5000 [] (by omega) (by omega) (by simp)
  simpa [laminalaw17_plain.f] using this
theorem rapp_in (F T : Int) (L : List S65) (i : Int) (a n : Nat) (z : Bool) (d ys : List Int) (hy : ys.length = n) (hv : ∀ j (h : j < n), (if z = true then (0 : Int) else rd d j) = ys[j]) (hd : z = false → d.length = n) (hn : n ≤ 4096) (ha : a ≤ 4096) :
    ∀ (m j k : Nat) (out : List Int), j + m = n → m < k → a + n ≤ out.length → laminaref17_Apply.l1 k out i j F T L a n z d = laminaref17_Apply.l0 (k - m - 1) (putAt out (a + j) (ys.drop j)) (wrap64 (i + 1)) F T L := by
  intro m
  induction m with
  | zero =>
    intro j k out hj hk ho
    obtain ⟨k, rfl⟩ : ∃ k', k = k' + 1 := ⟨k - 1, by omega⟩
    rw [laminaref17_Apply.l1, if_neg (by omega), List.drop_eq_nil_of_le (by omega)]
    simp [putAt]
  | succ m ih =>
    intro j k out hj hk ho
    obtain ⟨k, rfl⟩ : ∃ k', k = k' + 1 := ⟨k - 1, by omega⟩
    have e : wrap64 ((j : Int) + 1) = ((j + 1 : Nat) : Int) := by unfold wrap64; omega
    have e2 : wrap64 ((a : Int) + j) = ((a + j : Nat) : Int) := by unfold wrap64; omega
    have hvj := hv j (by omega)
    rw [List.drop_eq_getElem_cons (show j < ys.length by omega), put_cons _ _ _ _ (by omega), ← hvj]
    have hi := ih (j + 1) k (out.set (a + j) (if z = true then (0 : Int) else rd d j)) (by omega) (by omega) (by simpa using ho)
    rw [laminaref17_Apply.l1, if_pos (by omega), e2, e]
    cases z
    · have hd2 := hd rfl
      simp only [Bool.false_eq_true, if_false] at hi ⊢
      rw [if_pos (by omega), if_pos (by omega), if_pos (by omega), if_pos (by omega), Int.toNat_natCast, hi]
      congr 1
      omega
    · simp only [if_true] at hi ⊢
      rw [if_pos (by omega), if_pos (by omega), Int.toNat_natCast, hi]
      congr 1
      omega
theorem rapp_go (F T : Int) (hT : 0 ≤ T ∧ T ≤ 4096) (L : List S65) (hL : L.length ≤ 4000) (hg : ∀ r ∈ L.map toP, 0 ≤ r.f0 ∧ 1 ≤ r.f1 ∧ r.f1 ≤ T ∧ r.f0 ≤ T - r.f1 ∧ (r.f3.length : Int) = (if r.f2 = true then 0 else r.f1)) :
    ∀ (m i k : Nat) (out : List Int), i + m = L.length → m * 5000 < k → (out.length : Int) = T → laminaref17_Apply.l0 k out i F T L = some (applyR out ((L.drop i).map toP)) := by
  intro m
  induction m with
  | zero =>
    intro i k out hi hk ho
    obtain ⟨k, rfl⟩ : ∃ k', k = k' + 1 := ⟨k - 1, by omega⟩
    rw [laminaref17_Apply.l0, if_neg (by omega), List.drop_eq_nil_of_le (by omega)]
    rfl
  | succ m ih =>
    intro i k out hi hk ho
    obtain ⟨k, rfl⟩ : ∃ k', k = k' + 1 := ⟨k - 1, by omega⟩
    have e : wrap64 ((i : Int) + 1) = ((i + 1 : Nat) : Int) := by unfold wrap64; omega
    have hr := hg (toP L[i]) (List.mem_map_of_mem (List.getElem_mem (by omega)))
    have hl := recYs_len T _ hr
    rw [laminaref17_Apply.l0, if_pos (by omega), if_pos (by omega), rdR_mem L i (by omega), List.drop_eq_getElem_cons (show i < L.length by omega), List.map_cons, applyR]
    generalize L[i] = r at *
    obtain ⟨r0, r1, z, d⟩ := r
    simp only [toP] at hr hl ⊢
    obtain ⟨a, rfl⟩ := Int.eq_ofNat_of_zero_le hr.1
    obtain ⟨n, rfl⟩ := Int.eq_ofNat_of_zero_le (show 0 ≤ r1 by omega)
    rw [Int.toNat_natCast] at hl ⊢
    have hv : ∀ j (h : j < n), (if z = true then (0 : Int) else rd d j) = (recYs ⟨(a : Int), (n : Int), z, d⟩)[j] := fun j hj => by
      cases z
      · simp only [recYs, Bool.false_eq_true, if_false] at hl ⊢
        simp [rd, show j < d.length by omega]
      · simp [recYs]
    have hz : z = false → d.length = n := fun hz => by
      subst hz
      simp only [recYs, Bool.false_eq_true, if_false] at hl
      exact hl
    have hin := rapp_in F T L i a n z d (recYs ⟨(a : Int), (n : Int), z, d⟩) hl hv hz (by omega) (by omega) n 0 k out (by omega) (by omega) (by omega)
    rw [Int.natCast_zero] at hin
    rw [hin, e]
    have hn : n ≤ 4096 := by omega
    rw [Nat.succ_mul] at hk
    generalize m * 5000 = q at *
    have hk2 : q < k - n - 1 := by omega
    refine (ih (i + 1) (k - n - 1) _ (by omega) hk2 ?_).trans ?_
    · rw [Nat.add_zero, List.drop_zero, putAt_len _ _ _ (by omega)]; exact ho
    · rw [Nat.add_zero, List.drop_zero]
theorem rapp_f (F : Int) (T : Nat) (hT : T ≤ 4096) (L : List S65) (hL : L.length ≤ 4000) (hg : goodD F T (L.map toP) = true) (old : List Int) (k : Nat) (hk : L.length * 5000 < k) (hk2 : T < k) : laminaref17_Apply.f k F T L old = some (applyR (szL old T) (L.map toP)) := by
  have hg2 : goodR T 0 (L.map toP) = true := by unfold goodD at hg; rw [Bool.and_eq_true] at hg; exact hg.2
  have hm := goodR_mem T (L.map toP) 0 hg2 (Int.le_refl 0)
  unfold laminaref17_Apply.f
  rw [resized_f old T (by omega) _ hk2, Option.bind_some]
  have := rapp_go F T (by omega) L hL hm L.length 0 k (szL old T) (by omega) hk (by rw [szL_len])
  simpa using this

-- AUX btw17
theorem drop_both (a m : Nat) (fresh was : List Int) (h : a ≤ fresh.length) : (fresh.take a ++ was.drop a).drop (a + m) = was.drop (a + m) := by
  rw [← List.drop_drop, List.drop_left' (by simp; omega), List.drop_drop]
theorem goodR_snoc (T : Int) : ∀ (l : List S61) (a e : Int) (r : S61), goodR T a l = true → a ≤ e → (∀ x ∈ l, x.f0 + x.f1 ≤ e) → e ≤ r.f0 → (1 ≤ r.f1 ∧ r.f1 ≤ T ∧ r.f0 ≤ T - r.f1 ∧ (r.f3.length : Int) = (if r.f2 = true then 0 else r.f1)) → goodR T a (l ++ [r]) = true
  | [], a, e, r, _, h1, _, h3, h4 => (goodR_cons T a r []).2 ⟨⟨by omega, h4⟩, rfl⟩
  | x :: l, a, e, r, h, h1, h2, h3, h4 => by
    obtain ⟨hx, hl⟩ := (goodR_cons T a x l).1 h
    exact (goodR_cons T a x (l ++ [r])).2 ⟨hx, goodR_snoc T l _ e r hl (h2 x (List.mem_cons_self ..)) (fun y hy => h2 y (List.mem_cons_of_mem _ hy)) h3 h4⟩
theorem zeroB_seg {l : List Int} (h : zeroB l = true) : l = List.replicate l.length 0 := by
  refine List.eq_replicate_iff.2 ⟨rfl, fun x hx => ?_⟩
  unfold zeroB at h
  rw [Bool.not_eq_true', List.any_eq_false] at h
  simpa using h x hx
theorem recOf_ys (a : Int) (b : List Int) : recYs (recOf a b) = b := by
  unfold recYs recOf
  cases h : zeroB b
  · simp
  · simp only [if_true]
    rw [Int.toNat_natCast]
    exact (zeroB_seg h).symm
theorem recOf_ok (T : Int) (a : Nat) (b : List Int) (h1 : 1 ≤ b.length) (h2 : (a : Int) + b.length ≤ T) : 1 ≤ (recOf a b).f1 ∧ (recOf a b).f1 ≤ T ∧ (recOf a b).f0 ≤ T - (recOf a b).f1 ∧ ((recOf a b).f3.length : Int) = (if (recOf a b).f2 = true then 0 else (recOf a b).f1) := by
  unfold recOf
  refine ⟨by simp; omega, by simp; omega, by simp; omega, ?_⟩
  cases h : zeroB b <;> simp
theorem btw_seg (l : List Int) (o i n : Nat) (hl : l.length = n) (hi : i * o < n) : (seg l (i * o) (pcM n o i)).length = pcM n o i ∧ 1 ≤ pcM n o i ∨ o = 0 := by
  rcases Nat.eq_zero_or_pos o with h | h
  · exact .inr h
  · refine .inl ⟨seg_len l _ _ (by unfold pcM; omega), by unfold pcM; omega⟩
theorem btw_good (was fresh : List Int) (o : Nat) (hw : was.length = fresh.length) (ho : 0 < o) (i : Nat) (hi : ∀ k, k < i → k * o < fresh.length) : goodR fresh.length 0 (btwL was fresh o i) = true ∧ ∀ x ∈ btwL was fresh o i, x.f0 + x.f1 ≤ (min (i * o) fresh.length : Nat) := by
  induction i with
  | zero => exact ⟨rfl, fun x hx => by cases hx⟩
  | succ i ih =>
    obtain ⟨h1, h2⟩ := ih (fun k hk => hi k (by omega))
    have hm := hi i (by omega)
    have hs := btw_seg fresh o i fresh.length rfl hm
    have hmul : (i + 1) * o = i * o + o := Nat.succ_mul i o
    have e : min ((i + 1) * o) fresh.length = i * o + pcM fresh.length o i := by unfold pcM; omega
    rw [show min (i * o) fresh.length = i * o by omega] at h2
    rw [btwL, e]
    rcases hs with ⟨hs, hp⟩ | h0
    · split
      · rw [List.append_nil]
        exact ⟨h1, fun x hx => by have := h2 x hx; omega⟩
      · have hok := recOf_ok fresh.length (i * o) (seg fresh (i * o) (pcM fresh.length o i)) (by omega) (by rw [hs]; unfold pcM; omega)
        refine ⟨goodR_snoc _ _ _ ((i * o : Nat) : Int) _ h1 (by omega) h2 (Int.le_refl _) hok, fun x hx => ?_⟩
        rcases List.mem_append.1 hx with hx | hx
        · have := h2 x hx; omega
        · rw [List.mem_singleton] at hx
          subst hx
          show ((i * o : Nat) : Int) + ((seg fresh (i * o) (pcM fresh.length o i)).length : Int) ≤ _
          rw [hs]; omega
    · omega
theorem btw_apply (was fresh : List Int) (o : Nat) (hw : was.length = fresh.length) (ho : 0 < o) (i : Nat) (hi : ∀ k, k < i → k * o < fresh.length) : applyR was (btwL was fresh o i) = fresh.take (min (i * o) fresh.length) ++ was.drop (min (i * o) fresh.length) := by
  induction i with
  | zero => simp [btwL, applyR]
  | succ i ih =>
    have h := ih (fun k hk => hi k (by omega))
    have hm := hi i (by omega)
    have hs := btw_seg fresh o i fresh.length rfl hm
    have hmul : (i + 1) * o = i * o + o := Nat.succ_mul i o
    have e : min ((i + 1) * o) fresh.length = i * o + pcM fresh.length o i := by unfold pcM; omega
    have hb : i * o + pcM fresh.length o i ≤ fresh.length := by unfold pcM; omega
    rw [show min (i * o) fresh.length = i * o by omega] at h
    rw [btwL, e]
    generalize pcM fresh.length o i = m at *
    generalize i * o = a at *
    have hf : fresh.take (a + m) = fresh.take a ++ seg fresh a m := by
      unfold seg
      rw [← List.take_append_drop a (fresh.take (a + m)), List.take_take, show min a (a + m) = a by omega]
      rw [List.drop_left' (by simp; omega)]
    rcases hs with ⟨hs, hp⟩ | h0
    · split
      · rename_i heq
        rw [List.append_nil, h, hf, ← heq, List.append_assoc]
        congr 1
        unfold seg
        rw [← List.drop_drop]
        rw [List.drop_take, show a + m - a = m by omega, List.take_append_drop]
      · rw [applyR_snoc, h, recOf_ys, hf]
        unfold putAt
        rw [show (recOf (a : Int) (seg fresh a m)).f0.toNat = a from Int.toNat_natCast a, hs]
        rw [List.take_left' (by simp; omega), drop_both a m fresh was (by omega)]
    · omega
theorem pcN_ok (n o : Nat) (ho : o = 16 ∨ o = 32 ∨ o = 64 ∨ o = 128 ∨ o = 256) : n ≤ pcN n o * o := by unfold pcN; rcases ho with rfl | rfl | rfl | rfl | rfl <;> omega
theorem btw_all (old fresh : List Int) (o : Nat) (hn : fresh.length ≤ 4096) (hold : old.length ≤ 4096) (ho : o = 16 ∨ o = 32 ∨ o = 64 ∨ o = 128 ∨ o = 256) : applyO old.length fresh.length (btwL (szL old fresh.length) fresh o (pcN fresh.length o)) old = (fresh, none) := by
  have hi : ∀ k, k < pcN fresh.length o → k * o < fresh.length := fun k hk => pcN_lt _ _ _ ho hk
  have hg := (btw_good (szL old fresh.length) fresh o (szL_len _ _) (by omega) _ hi).1
  have ha := btw_apply (szL old fresh.length) fresh o (szL_len _ _) (by omega) _ hi
  have hp := pcN_ok fresh.length o ho
  rw [show min (pcN fresh.length o * o) fresh.length = fresh.length by omega, List.take_of_length_le (Nat.le_refl _), List.drop_eq_nil_of_le (by rw [szL_len]; exact Nat.le_refl _), List.append_nil] at ha
  unfold applyO goodD
  rw [hg, decide_eq_true (by omega), Bool.and_true, if_pos rfl, if_pos rfl, Int.toNat_natCast, ha]

end Go.Proofs.Ytdehifinipmmcaa.Hp
