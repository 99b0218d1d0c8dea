/- Contracts of functions of the given program, and what they lean on: written by this session's own program hprint.py, which lays hand texts into the kit's printer. -/
import Derived.Test.YtdfkecfmmcdgiaaHp0
import Derived.Test.YtdfkecfmmcdgiaaHpf23
namespace Go.Proofs.Ytdfkecfmmcdgiaa.Hp
open Go.RowKit Go.Proofs.YtdfkecfmmcdgiaaW.PrintWords Go.Proofs.YtdfkecfmmcdgiaaW.PrintLast Go.Proofs.YtdfkecfmmcdgiaaW.PrintMore
attribute [local go_sem] max2_int min2_int max_two min_two max_three min_three max_four min_four   -- for this text's walks alone
set_option linter.unusedVariables false
set_option linter.unusedSimpArgs false

/-! ### laminaref10_Put: function 26 -/
mutual
def laminaref10_Put.l0 : Nat → List Int → List Int → Int → Option (List Int)
  | 0, _, _, _ => none
  | k + 1, x0, x3, x4 => if x4 < (x0.length : Int) then (laminaref10_Put.l1 k x0 x3 x4 0 3) else (some x3)
def laminaref10_Put.l1 : Nat → List Int → List Int → Int → Int → Int → Option (List Int)
  | 0, _, _, _, _, _ => none
  | k + 1, x0, x3, x4, x5, x6 => if x6 ≥ 0 then (if (wrap64 (x4 + x6)) < (x0.length : Int) then (if 0 ≤ (wrap64 (x4 + x6)) then (laminaref10_Put.l1 k x0 x3 x4 (wrap64 ((wrap64 (4 * x5)) + (wrap64 (rd x0 (wrap64 (x4 + x6)))))) (wrap64 (x6 - 1))) else (none)) else (laminaref10_Put.l1 k x0 x3 x4 (wrap64 (4 * x5)) (wrap64 (x6 - 1)))) else (if x3.length < 140737488355328 then (laminaref10_Put.l0 k x0 (x3 ++ [(x5) % 256]) (wrap64 (x4 + 4))) else (none))
end
def laminaref10_Put.f (k : Nat) (l0 : List Int) : Option (List Int) := laminaref10_Put.l0 k l0 (([(l0.length : Int) % 256, (wrap64 ((l0.length : Int) / 256)) % 256] : List Int)) 0
theorem laminaref10_Put.mono_l : ∀ k, (∀ y0 y1 y2, LeO (laminaref10_Put.l0 k y0 y1 y2) (laminaref10_Put.l0 (k + 1) y0 y1 y2)) ∧ (∀ y0 y1 y2 y3 y4, LeO (laminaref10_Put.l1 k y0 y1 y2 y3 y4) (laminaref10_Put.l1 (k + 1) y0 y1 y2 y3 y4))
  | 0 => ⟨fun _ _ _ r h => by simp [laminaref10_Put.l0] at h, fun _ _ _ _ _ r h => by simp [laminaref10_Put.l1] at h⟩
  | k + 1 => by
    obtain ⟨ih0, ih1⟩ := laminaref10_Put.mono_l k
    refine ⟨?_, ?_⟩
    · intro y0 y1 y2
      unfold laminaref10_Put.l0
      repeat' first
      | (with_reducible exact ih0 _ _ _)
      | (with_reducible exact ih1 _ _ _ _ _)
      | (with_reducible exact LeO.refl _)
      | (with_reducible exact LeO.none _)
      | (with_reducible refine LeO.ite ?_ ?_)
      | (with_reducible refine LeO.bind ?_ (fun _ => ?_))
      | exact ih0 _ _ _
      | exact ih1 _ _ _ _ _
      | exact LeO.none _
      | refine LeO.ite ?_ ?_
      | refine LeO.bind ?_ (fun _ => ?_)
    · intro y0 y1 y2 y3 y4
      unfold laminaref10_Put.l1
      repeat' first
      | (with_reducible exact ih0 _ _ _)
      | (with_reducible exact ih1 _ _ _ _ _)
      | (with_reducible exact LeO.refl _)
      | (with_reducible exact LeO.none _)
      | (with_reducible refine LeO.ite ?_ ?_)
      | (with_reducible refine LeO.bind ?_ (fun _ => ?_))
      | exact ih0 _ _ _
      | exact ih1 _ _ _ _ _
      | exact LeO.none _
      | refine LeO.ite ?_ ?_
      | refine LeO.bind ?_ (fun _ => ?_)
theorem laminaref10_Put.mono : ∀ a0 k, LeO (laminaref10_Put.f k a0) (laminaref10_Put.f (k + 1) a0) := by
  intro a0 k
  obtain ⟨ih0, ih1⟩ := laminaref10_Put.mono_l k
  unfold laminaref10_Put.f
  repeat' first
      | (with_reducible exact ih0 _ _ _)
      | (with_reducible exact ih1 _ _ _ _ _)
      | (with_reducible exact LeO.refl _)
      | (with_reducible exact LeO.none _)
      | (with_reducible refine LeO.ite ?_ ?_)
      | (with_reducible refine LeO.bind ?_ (fun _ => ?_))
      | exact ih0 _ _ _
      | exact ih1 _ _ _ _ _
      | exact LeO.none _
      | refine LeO.ite ?_ ?_
      | refine LeO.bind ?_ (fun _ => ?_)
set_option maxHeartbeats 8000000 in
set_option maxRecDepth 100000 in
theorem laminaref10_Put.calls (k : Nat) (A0 : Option Addr) (c0 : Nat) (l0 : List Int) (r : List Int) (w : World) (hr0 : Kd.C (Kd.int .u8) w A0 l0.length l0) (hc0 : l0.length ≤ c0) (h : laminaref10_Put.f k l0 = some r) :
    Calls Try.prog 26 #[.slice A0 l0.length c0] w fun e w' => ∃ v0_ : Value, e = .returned (v0_) ∧ Kd.R (Kd.int .u8) 5 w' w.heap.size (fun _ => True) v0_ r ∧ Below w.heap.size w w' := by
  have HR0 := Aside0.mk hr0
  have HC0 := Aside0.mk hc0
  clear hr0 hc0
  have HB := Aside0.mk (Below.refl w.heap.size w)
  have H : (laminaref10_Put.l0 k l0 (([(l0.length : Int) % 256, (wrap64 ((l0.length : Int) / 256)) % 256] : List Int)) 0) = some r := h
  clear h
  obtain ⟨y161, hy161⟩ : ∃ y_ : List Int, y_ = (([(l0.length : Int) % 256, (wrap64 ((l0.length : Int) / 256)) % 256] : List Int)) := ⟨_, rfl⟩
  replace H : (laminaref10_Put.l0 k l0 y161 0) = some r := by first | (rw [hy161]; with_reducible exact H) | (have H2_ := (Option.bind_some _ _).symm.trans H; rw [hy161]; with_reducible exact H2_) | (have H2_ := (Option.bind_some _ _).symm.trans H; with_reducible exact H2_) | with_reducible exact H | (rw [hy161]; exact H) | exact H
  have Ny161 := Aside0.mk hy161
  clear hy161
  have H' := Aside0.mk H
  clear H
  go_enter Try.func26, Try.ntmps26
  go_wp2_with (first | ((with_reducible refine gate_dst (N := 15) rfl ?_); refine Kd.R_lit (Kd.int .u8) _ 5 ?hg (N := 15) ?hd (xs := ([(l0.length : Int) % 256, (wrap64 ((l0.length : Int) / 256)) % 256] : List Int)) (inner := [.int .u8 ((l0.length : Int) % 256), .int .u8 ((wrap64 ((l0.length : Int) / 256)) % 256)]) (ok := fun _ => True) (okp := fun _ => True) ?hr ?hp (fun _ hk => hk) trivial (Below.refl _ _) (Nat.le_refl _) (by simp) ?_; (case hd => rfl); (case hg => rfl); (case hr => first | (go_simp; done) | (go_simp; rfl)); (case hp => exact (Reps.one (show Kd.M (Kd.int .u8) _ _ _ ((l0.length : Int) % 256) [.int .u8 ((l0.length : Int) % 256)] from rfl) (Reps.one (show Kd.M (Kd.int .u8) _ _ _ ((wrap64 ((l0.length : Int) / 256)) % 256) [.int .u8 ((wrap64 ((l0.length : Int) / 256)) % 256)] from rfl) (Reps.none _ _)))); intro v162 w2 ho3 hb hg_ hnew_; clear hg_ hnew_; (first | rw [← Ny161.out] at ho3 | (simp only [Int.reduceToNat] at ho3; rw [← Ny161.out] at ho3)); have n0_ := Aside0.mk (Kd.R_lower ho3 (below_size (by repeat (first | (with_reducible first | exact HB.out | apply below_alloc | apply pw_below_drewN | apply below_drew1) | exact HB.out)))); have n1_ := Aside0.mk (below_step (by repeat (first | (with_reducible first | exact HB.out | apply below_alloc | apply pw_below_drewN | apply below_drew1) | exact HB.out)) hb); clear HB; have HO163 := n0_; have HB := n1_; clear n0_ n1_; clear hb ho3))
  go_loopg [3, 4] k (fun kq v3 v4 w' => ∃ (x3_1 : List Int) (x4_1 : Int), v4 = .int .i64 x4_1 ∧ Aside0 (laminaref10_Put.l0 kq l0 x3_1 x4_1 = some r) ∧ Aside0 (kq ≤ k) ∧ Aside0 (Kd.R (Kd.int .u8) 5 w' w.heap.size (fun _ => True) v3 x3_1) ∧ Aside0 (Below w.heap.size w w'))
  case atStart => exact ⟨(y161), (0), (by first | rfl | (simp; done) | (simp [*]; done)), H', ⟨Nat.le_refl _⟩, ⟨by (with_reducible repeat (first | apply Kd.R_alloc | apply Kd.R_drewN | apply Kd.R_drew)); exact HO163.out⟩, ⟨by repeat (first | (with_reducible first | exact HB.out | apply below_alloc | apply pw_below_drewN | apply below_drew1) | exact HB.out)⟩⟩
  case round =>
    clear H'
    try clear c2
    try clear p2
    obtain ⟨x3_1, x4_1, rfl, HA, HK1, HO_3, HB⟩ := hrel
    cases gk with
    | zero => exact absurd HA.out (by simp [laminaref10_Put.l0])
    | succ k1 =>
      have H := HA.out
      clear HA
      simp only [laminaref10_Put.l0] at H
      by_cases c4 : x4_1 < (l0.length : Int)
      · rw [if_pos c4] at H
        have c4b0 : decide (x4_1 < (l0.length : Int)) = true := decide_eq_true c4
        clear c4
        have H' := Aside0.mk H
        clear H
        go_wp2
        go_loopg [5, 6] k1 (fun kq v5 v6 w' => ∃ (x5_2 : Int) (x6_2 : Int), v5 = .int .i64 x5_2 ∧ v6 = .int .i64 x6_2 ∧ Aside0 (laminaref10_Put.l1 kq l0 x3_1 x4_1 x5_2 x6_2 = some r) ∧ Aside0 (kq ≤ k1) ∧ Aside0 (Kd.R (Kd.int .u8) 5 w' w.heap.size (fun _ => True) u3 x3_1) ∧ Aside0 (Below w.heap.size w w'))
        case atStart => exact ⟨(0), (3), (by first | rfl | (simp; done) | (simp [*]; done)), (by first | rfl | (simp; done) | (simp [*]; done)), H', ⟨Nat.le_refl _⟩, ⟨by (with_reducible repeat (first | apply Kd.R_alloc | apply Kd.R_drewN | apply Kd.R_drew)); exact HO_3.out⟩, ⟨by repeat (first | (with_reducible first | exact HB.out | apply below_alloc | apply pw_below_drewN | apply below_drew1) | exact HB.out)⟩⟩
        case round =>
          clear H'
          try clear c2
          try clear p2
          try clear c4
          try clear c4b0
          try clear p2
          obtain ⟨x5_2, x6_2, rfl, rfl, HA, HK2, HO_3, HB⟩ := hrel
          cases gk with
          | zero => exact absurd HA.out (by simp [laminaref10_Put.l1])
          | succ k2 =>
            have H := HA.out
            clear HA
            simp only [laminaref10_Put.l1] at H
            by_cases c5 : x6_2 ≥ 0
            · rw [if_pos c5] at H
              have c5b0 : decide (0 ≤ x6_2) = true := decide_eq_true c5
              clear c5
              by_cases c6 : (wrap64 (x4_1 + x6_2)) < (l0.length : Int)
              · rw [if_pos c6] at H
                have c6b0 : decide ((wrap64 (x4_1 + x6_2)) < (l0.length : Int)) = true := decide_eq_true c6
                clear c6
                obtain ⟨ji7, hji7⟩ : ∃ j_ : Int, (wrap64 (x4_1 + x6_2)) = j_ := ⟨_, rfl⟩
                replace H : (if 0 ≤ (ji7) then (laminaref10_Put.l1 k2 l0 x3_1 x4_1 (wrap64 ((wrap64 (4 * x5_2)) + (wrap64 (rd l0 (ji7))))) (wrap64 (x6_2 - 1))) else (none)) = some r := by first | (rw [hji7] at H; exact H) | (simp only [hji7] at H ⊢; exact H)
                (try rw [hji7] at c6b0)
                have hji7w : (IntKind.i64.wrap (x4_1 + x6_2)) = ji7 := (i64_w _).trans hji7
                by_cases c8 : 0 ≤ (ji7)
                · rw [if_pos c8] at H
                  have c8b0 : decide (0 ≤ (ji7)) = true := decide_eq_true c8
                  clear c8
                  have H' := Aside0.mk H
                  clear H
                  have p164 : 0 ≤ ((ji7) : Int) := of_decide_eq_true (by first | (with_reducible assumption) | assumption)
                  have q164 : (ji7) < (l0.length : Int) := of_decide_eq_true (by first | (with_reducible assumption) | assumption)
                  obtain ⟨ad164, e164, hx164_0⟩ := Kd.at_int HR0.out (ji7) p164 q164
                  cases e164
                  replace hx164_0 := (HB.out.cell (World.block_lt_of_cell? w _ hx164_0)).trans hx164_0
                  replace p164 := eq_true p164
                  replace q164 := eq_true q164
                  go_wp2
                  go_roundg k2
                  case measure => have := HK1.out; have := HK2.out; omega
                  case rel => exact ⟨(wrap64 ((wrap64 (4 * x5_2)) + (wrap64 (rd l0 (ji7))))), (wrap64 (x6_2 - 1)), (by first | rfl | (simp; done) | (simp only [← hji7] <;> (first | rfl | simp)) | (simp [*]; done)), (by first | rfl | (simp; done) | (simp [*]; done)), H', ⟨by have := HK1.out; have := HK2.out; omega⟩, ⟨by (with_reducible repeat (first | apply Kd.R_alloc | apply Kd.R_drewN | apply Kd.R_drew)); exact HO_3.out⟩, ⟨by repeat (first | (with_reducible first | exact HB.out | apply below_alloc | apply pw_below_drewN | apply below_drew1) | exact HB.out)⟩⟩
                · rw [if_neg c8] at H
                  exact absurd H (by simp)
              · rw [if_neg c6] at H
                have c6b0 : decide ((wrap64 (x4_1 + x6_2)) < (l0.length : Int)) = false := decide_eq_false c6
                clear c6
                have H' := Aside0.mk H
                clear H
                go_wp2
                go_roundg k2
                case measure => have := HK1.out; have := HK2.out; omega
                case rel => exact ⟨(wrap64 (4 * x5_2)), (wrap64 (x6_2 - 1)), (by first | rfl | (simp; done) | (simp [*]; done)), (by first | rfl | (simp; done) | (simp [*]; done)), H', ⟨by have := HK1.out; have := HK2.out; omega⟩, ⟨by (with_reducible repeat (first | apply Kd.R_alloc | apply Kd.R_drewN | apply Kd.R_drew)); exact HO_3.out⟩, ⟨by repeat (first | (with_reducible first | exact HB.out | apply below_alloc | apply pw_below_drewN | apply below_drew1) | exact HB.out)⟩⟩
            · rw [if_neg c5] at H
              have c5b0 : decide (0 ≤ x6_2) = false := decide_eq_false c5
              clear c5
              by_cases c9 : x3_1.length < 140737488355328
              · rw [if_pos c9] at H
                have LMc9 := Aside0.mk c9
                clear c9
                obtain ⟨y165, hy165⟩ : ∃ y_ : List Int, y_ = (x3_1 ++ [(x5_2) % 256]) := ⟨_, rfl⟩
                replace H : (laminaref10_Put.l0 k2 l0 y165 (wrap64 (x4_1 + 4))) = some r := by first | (rw [hy165]; with_reducible exact H) | (have H2_ := (Option.bind_some _ _).symm.trans H; rw [hy165]; with_reducible exact H2_) | (have H2_ := (Option.bind_some _ _).symm.trans H; with_reducible exact H2_) | with_reducible exact H | (rw [hy165]; exact H) | exact H
                have Ny165 := Aside0.mk hy165
                clear hy165
                have H' := Aside0.mk H
                clear H
                go_wp2_with (first | ((with_reducible refine gate_builtin (b := .append) (xs := #[.tmp 43, .tmp 46]) rfl ?_); at_builtin; refine Kd.R_append (Kd.int .u8) (w0 := w) w.heap.size rfl (.tmp 43) (.tmp 46) 22 5 (.int .u8 0) 1 rfl Try.underlying22 info5 rfl (by decide) (by omega) u3 x3_1 ((x5_2) % 256) [.int .u8 ((x5_2) % 256)] (fun _ => True) (fun _ => False) rfl rfl ?aP (fun _ hk => hk.elim) ?aF ?aO ?aB ?aS ?aL ?_; (case aP => exact rfl); (case aB => exact (by repeat (first | (with_reducible first | exact HB.out | apply below_alloc | apply pw_below_drewN | apply below_drew1) | exact HB.out))); (case aF => exact (fun _ _ => trivial)); (case aO => exact (by (with_reducible repeat (first | apply Kd.R_alloc | apply Kd.R_drewN | apply Kd.R_drew)); exact HO_3.out)); (case aS => exact (below_size (by repeat (first | (with_reducible first | exact HB.out | apply below_alloc | apply pw_below_drewN | apply below_drew1) | exact HB.out)))); (case aL => have := LMc9.out; omega); intro v166 w10 ho hb hg hat; rw [← Ny165.out] at ho; have n0_ := Aside0.mk (hb); have n1_ := Aside0.mk (ho); clear HB; clear HO_3; have HB := n0_; have HO167 := n1_; clear n0_ n1_; clear ho hb hg hat))
                go_roundg k2
                case measure => have := HK1.out; have := HK2.out; omega
                case rel => exact ⟨(y165), (wrap64 (x4_1 + 4)), (by first | rfl | (simp; done) | (simp [*]; done)), H', ⟨by have := HK1.out; have := HK2.out; omega⟩, ⟨by (with_reducible repeat (first | apply Kd.R_alloc | apply Kd.R_drewN | apply Kd.R_drew)); exact HO167.out⟩, ⟨by repeat (first | (with_reducible first | exact HB.out | apply below_alloc | apply pw_below_drewN | apply below_drew1) | exact HB.out)⟩⟩
              · rw [if_neg c9] at H
                exact absurd H (by simp)
      · rw [if_neg c4] at H
        have c4b0 : decide (x4_1 < (l0.length : Int)) = false := decide_eq_false c4
        clear c4
        obtain rfl := Option.some.inj H
        go_wp2
        go_ret
        exact ⟨_, by first | rfl | (simp [errW_none, errW_some] <;> rfl) | (simp [*, errW_none, errW_some] <;> rfl), by (with_reducible repeat (first | apply Kd.R_alloc | apply Kd.R_drewN | apply Kd.R_drew)); exact HO_3.out, by repeat (first | (with_reducible first | exact HB.out | apply below_alloc | apply pw_below_drewN | apply below_drew1) | exact HB.out)⟩

-- AUX pack10
def quad (m : List Int) (q : Nat) : Int := rd m (4 * q : Nat) + 4 * rd m (4 * q + 1 : Nat) + 16 * rd m (4 * q + 2 : Nat) + 64 * rd m (4 * q + 3 : Nat)
def packL (m : List Int) : List Int := (m.length : Int) % 256 :: (m.length : Int) / 256 :: (List.range ((m.length + 3) / 4)).map (quad m)
def IsMarks (m : List Int) : Prop := m.length ≤ 256 ∧ ∀ x ∈ m, 0 ≤ x ∧ x ≤ 3
theorem mk_rd {m : List Int} (h : IsMarks m) (i : Nat) : 0 ≤ rd m i ∧ rd m i ≤ 3 := by
  unfold rd
  rw [Int.toNat_natCast]
  by_cases hi : i < m.length
  · have := h.2 m[i] (List.getElem_mem hi)
    simpa [List.getD_eq_getElem?_getD, hi] using this
  · simp [List.getD_eq_getElem?_getD, List.getElem?_eq_none (show m.length ≤ i by omega)]
theorem rput_step (k : Nat) (m acc : List Int) (hm : IsMarks m) (i j : Nat) (v : Int) (hi : i ≤ 256) (hj : j ≤ 3) (h0 : 0 ≤ v) (h1 : v ≤ 100) :
    laminaref10_Put.l1 (k + 1) m acc i v j = laminaref10_Put.l1 k m acc i (4 * v + rd m (i + j : Nat)) ((j : Int) - 1) := by
  have hr := mk_rd hm (i + j)
  have e : wrap64 ((i : Int) + j) = ((i + j : Nat) : Int) := by unfold wrap64; omega
  have e2 : wrap64 ((j : Int) - 1) = (j : Int) - 1 := by unfold wrap64; omega
  have e3 : wrap64 (4 * v) = 4 * v := by unfold wrap64; omega
  have e4 : wrap64 (rd m (i + j : Nat)) = rd m (i + j : Nat) := by unfold wrap64; omega
  have e5 : wrap64 (4 * v + rd m (i + j : Nat)) = 4 * v + rd m (i + j : Nat) := by unfold wrap64; omega
  rw [laminaref10_Put.l1, if_pos (by omega), e, e2, e3, e4, e5]
  by_cases h : ((i + j : Nat) : Int) < m.length
  · rw [if_pos h, if_pos (by omega)]
  · rw [if_neg h]
    have : rd m ((i + j : Nat) : Int) = 0 := by
      unfold rd
      rw [Int.toNat_natCast]
      simp [List.getD_eq_getElem?_getD, List.getElem?_eq_none (show m.length ≤ i + j by omega)]
    rw [this, Int.add_zero]
theorem rput_end (k : Nat) (m acc : List Int) (i : Nat) (v : Int) (hl : acc.length < 1000) (hi : i ≤ 256) (h0 : 0 ≤ v) (h1 : v < 256) :
    laminaref10_Put.l1 (k + 1) m acc i v (-1) = laminaref10_Put.l0 k m (acc ++ [v]) ((i + 4 : Nat) : Int) := by
  have e : wrap64 ((i : Int) + 4) = ((i + 4 : Nat) : Int) := by unfold wrap64; omega
  have e2 : v % 256 = v := by omega
  rw [laminaref10_Put.l1, if_neg (by omega), if_pos (by omega), e, e2]
theorem rput_round (k : Nat) (m acc : List Int) (hm : IsMarks m) (q : Nat) (hl : acc.length < 1000) (hq : 4 * q < m.length) :
    laminaref10_Put.l0 (k + 6) m acc (4 * q : Nat) = laminaref10_Put.l0 k m (acc ++ [quad m q]) (4 * (q + 1) : Nat) := by
  have hn := hm.1
  have b0 := mk_rd hm (4 * q)
  have b1 := mk_rd hm (4 * q + 1)
  have b2 := mk_rd hm (4 * q + 2)
  have b3 := mk_rd hm (4 * q + 3)
  rw [laminaref10_Put.l0, if_pos (by omega)]
  have s3 := rput_step (k + 4) m acc hm (4 * q) 3 0 (by omega) (by omega) (by omega) (by omega)
  have s2 := rput_step (k + 3) m acc hm (4 * q) 2 (4 * 0 + rd m (4 * q + 3 : Nat)) (by omega) (by omega) (by omega) (by omega)
  have s1 := rput_step (k + 2) m acc hm (4 * q) 1 (4 * (4 * 0 + rd m (4 * q + 3 : Nat)) + rd m (4 * q + 2 : Nat)) (by omega) (by omega) (by omega) (by omega)
  have s0 := rput_step (k + 1) m acc hm (4 * q) 0 (4 * (4 * (4 * 0 + rd m (4 * q + 3 : Nat)) + rd m (4 * q + 2 : Nat)) + rd m (4 * q + 1 : Nat)) (by omega) (by omega) (by omega) (by omega)
  have e := rput_end k m acc (4 * q) (4 * (4 * (4 * (4 * 0 + rd m (4 * q + 3 : Nat)) + rd m (4 * q + 2 : Nat)) + rd m (4 * q + 1 : Nat)) + rd m (4 * q : Nat)) hl (by omega) (by omega) (by omega)
  have hs3 : ((3 : Nat) : Int) - 1 = ((2 : Nat) : Int) := by omega
  have hs2 : ((2 : Nat) : Int) - 1 = ((1 : Nat) : Int) := by omega
  have hs1 : ((1 : Nat) : Int) - 1 = ((0 : Nat) : Int) := by omega
  have hs0 : ((0 : Nat) : Int) - 1 = -1 := by omega
  rw [hs3] at s3
  rw [hs2] at s2
  rw [hs1] at s1
  rw [hs0, show 4 * q + 0 = 4 * q from rfl] at s0
  have t : (3 : Int) = ((3 : Nat) : Int) := rfl
  rw [t, s3, s2, s1, s0, e]
  congr 3
  · unfold quad; omega
theorem rput_go (m : List Int) (hm : IsMarks m) : ∀ (r q k : Nat), q + r = (m.length + 3) / 4 → 6 * r < k → laminaref10_Put.l0 k m ((m.length : Int) % 256 :: (m.length : Int) / 256 :: (List.range q).map (quad m)) (4 * q : Nat) = some (packL m) := by
  have hn := hm.1
  intro r
  induction r with
  | zero =>
    intro q k hq hk
    obtain ⟨k, rfl⟩ : ∃ k', k = k' + 1 := ⟨k - 1, by omega⟩
    rw [laminaref10_Put.l0, if_neg (by omega)]
    rw [show q = (m.length + 3) / 4 by omega]; rfl
  | succ r ih =>
    intro q k hq hk
    obtain ⟨k, rfl⟩ : ∃ k', k = k' + 6 := ⟨k - 6, by omega⟩
    have h := ih (q + 1) k (by omega) (by omega)
    rw [rput_round k m _ hm q (by simp; omega) (by omega)]
    rw [List.range_succ, List.map_append, List.map_singleton] at h
    exact h
theorem rput_f (m : List Int) (hm : IsMarks m) (k : Nat) (hk : 600 < k) : laminaref10_Put.f k m = some (packL m) := by
  have hn := hm.1
  unfold laminaref10_Put.f
  have e : wrap64 ((m.length : Int) / 256) % 256 = (m.length : Int) / 256 := by unfold wrap64; omega
  rw [e]
  exact rput_go m hm ((m.length + 3) / 4) 0 k (by omega) (by omega)
theorem or4 : ∀ p < 64, ∀ x < 4, bits .or .u8 ((p : Nat) : Int) (((x : Nat) : Int) * 64 % 256) = ((p + x * 64 : Nat) : Int) := by decide +kernel
theorem or3 : ∀ p < 16, ∀ x < 4, bits .or .u8 ((p : Nat) : Int) (((x : Nat) : Int) * 16 % 256) = ((p + x * 16 : Nat) : Int) := by decide +kernel
theorem or2 : ∀ p < 4, ∀ x < 4, bits .or .u8 ((p : Nat) : Int) (((x : Nat) : Int) * 4 % 256) = ((p + x * 4 : Nat) : Int) := by decide +kernel
theorem or1 : ∀ p < 1, ∀ x < 4, bits .or .u8 ((p : Nat) : Int) (((x : Nat) : Int) * 1 % 256) = ((p + x * 1 : Nat) : Int) := by decide +kernel
def part (m : List Int) (q : Nat) : Nat → Int
  | 0 => 0
  | j + 1 => part m q j + rd m (4 * q + j : Nat) * 4 ^ j
theorem part4 (m : List Int) (q : Nat) : part m q 4 = quad m q := by
  have z : rd m (4 * q + 0 : Nat) = rd m (4 * q : Nat) := rfl
  simp only [part, quad, z]
  omega
theorem or_part (m : List Int) (hm : IsMarks m) (q r : Nat) (hr : r < 4) : bits .or .u8 (part m q r) (rd m (4 * q + r : Nat) * 2 ^ (r * 2) % 256) = part m q (r + 1) := by
  have b0 := mk_rd hm (4 * q)
  have b1 := mk_rd hm (4 * q + 1)
  have b2 := mk_rd hm (4 * q + 2)
  have b3 := mk_rd hm (4 * q + 3)
  obtain ⟨x0, e0⟩ := Int.eq_ofNat_of_zero_le b0.1
  obtain ⟨x1, e1⟩ := Int.eq_ofNat_of_zero_le b1.1
  obtain ⟨x2, e2⟩ := Int.eq_ofNat_of_zero_le b2.1
  obtain ⟨x3, e3⟩ := Int.eq_ofNat_of_zero_le b3.1
  have z : rd m (4 * q + 0 : Nat) = (x0 : Int) := e0
  obtain rfl | rfl | rfl | rfl : r = 0 ∨ r = 1 ∨ r = 2 ∨ r = 3 := by omega
  · have h := or1 0 (by omega) x0 (by omega)
    simp only [part, z]
    simpa using h
  · have h := or2 x0 (by omega) x1 (by omega)
    simp only [part, z, e1]
    rw [show ((0 : Int) + (x0 : Int) * 4 ^ 0) = ((x0 : Nat) : Int) by omega, show (2 : Int) ^ (1 * 2) = 4 by decide, h]
    omega
  · have h := or3 (x0 + 4 * x1) (by omega) x2 (by omega)
    simp only [part, z, e1, e2]
    rw [show ((0 : Int) + (x0 : Int) * 4 ^ 0 + (x1 : Int) * 4 ^ 1) = ((x0 + 4 * x1 : Nat) : Int) by omega, show (2 : Int) ^ (2 * 2) = 16 by decide, h]
    omega
  · have h := or4 (x0 + 4 * x1 + 16 * x2) (by omega) x3 (by omega)
    simp only [part, z, e1, e2, e3]
    rw [show ((0 : Int) + (x0 : Int) * 4 ^ 0 + (x1 : Int) * 4 ^ 1 + (x2 : Int) * 4 ^ 2) = ((x0 + 4 * x1 + 16 * x2 : Nat) : Int) by omega, show (2 : Int) ^ (3 * 2) = 64 by decide, h]
    omega
theorem o_get (m : List Int) (hm : IsMarks m) : ∀ k : Nat, k ≤ m.length → (marks_Put.o m k)[0]? = some ((m.length : Int) % 256) ∧ (marks_Put.o m k)[1]? = some ((m.length : Int) / 256) ∧
    ∀ q < (m.length + 3) / 4, (marks_Put.o m k)[2 + q]? = some (part m q (min (k - 4 * q) 4)) := by
  intro k
  induction k with
  | zero =>
    intro _
    simp only [marks_Put.o, marks_Put.o0]
    refine ⟨?_, ?_, fun q hq => ?_⟩
    · rw [List.getElem?_set, if_neg (by omega), List.getElem?_set, if_pos rfl, if_pos (by rw [List.length_replicate]; omega)]
    · rw [List.getElem?_set, if_pos rfl, if_pos (by rw [List.length_set, List.length_replicate]; omega)]
    · rw [List.getElem?_set, if_neg (by omega), List.getElem?_set, if_neg (by omega), List.getElem?_replicate, if_pos (by omega)]
      simp [part]
  | succ k ih =>
    intro hk
    obtain ⟨h0, h1, h2⟩ := ih (by omega)
    have hl := marks_Put.o_len m k
    have hq := h2 (k / 4) (by omega)
    have hv : rdOf 0 (marks_Put.o m k) (2 + (k : Int) / 4) = part m (k / 4) (k % 4) := by
      unfold rdOf
      rw [show (2 + (k : Int) / 4).toNat = 2 + k / 4 by omega, List.getD_eq_getElem?_getD, hq, Option.getD_some]
      congr 1
      omega
    have hw := or_part m hm (k / 4) (k % 4) (by omega)
    rw [show 4 * (k / 4) + k % 4 = k by omega] at hw
    rw [marks_Put.o, hv, hw]
    refine ⟨?_, ?_, fun q hq2 => ?_⟩
    · rw [List.getElem?_set, if_neg (by omega), h0]
    · rw [List.getElem?_set, if_neg (by omega), h1]
    · rw [List.getElem?_set]
      by_cases e : k / 4 = q
      · subst e
        rw [if_pos rfl, if_pos (by omega)]
        congr 2
        omega
      · rw [if_neg (by omega), h2 q hq2]
        congr 2
        omega
theorem part_all (m : List Int) (q : Nat) (hq : q < (m.length + 3) / 4) : part m q (min (m.length - 4 * q) 4) = quad m q := by
  have z : ∀ i : Nat, m.length ≤ i → rd m i = 0 := by
    intro i hi
    unfold rd
    rw [Int.toNat_natCast]
    simp [List.getD_eq_getElem?_getD, List.getElem?_eq_none hi]
  rw [← part4]
  obtain h | h | h | h : m.length - 4 * q = 1 ∨ m.length - 4 * q = 2 ∨ m.length - 4 * q = 3 ∨ 4 ≤ m.length - 4 * q := by omega
  · rw [h]; simp only [part, z (4 * q + 1) (by omega), z (4 * q + 2) (by omega), z (4 * q + 3) (by omega)]; simp [part]
  · rw [h]; simp only [part, z (4 * q + 2) (by omega), z (4 * q + 3) (by omega)]; simp [part]
  · rw [h]; simp only [part, z (4 * q + 3) (by omega)]; simp [part]
  · rw [Nat.min_eq_right h]
theorem o_pack (m : List Int) (hm : IsMarks m) : marks_Put.o m m.length = packL m := by
  obtain ⟨h0, h1, h2⟩ := o_get m hm m.length (Nat.le_refl _)
  have hl := marks_Put.o_len m m.length
  apply List.ext_getElem?
  intro i
  rcases i with _ | _ | i
  · rw [h0]; rfl
  · rw [h1]; rfl
  · by_cases hi : i < (m.length + 3) / 4
    · have := h2 i hi
      rw [Nat.add_comm 2 i] at this
      rw [this, part_all m i hi]
      simp [packL, hi]
    · rw [List.getElem?_eq_none (by omega), List.getElem?_eq_none (by simp [packL]; omega)]
theorem put_f (m : List Int) (hm : IsMarks m) : marks_Put.f m = some (packL m, none) := by
  unfold marks_Put.f
  have ha : (m.any fun x => decide (x > 3)) = false := by
    rw [List.any_eq_false]
    intro x hx
    have := hm.2 x hx
    simp
    omega
  rw [if_pos ⟨hm.1, ha⟩, o_pack m hm]

end Go.Proofs.Ytdfkecfmmcdgiaa.Hp
