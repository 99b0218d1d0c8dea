/- Contracts of functions of the given program, and what they lean on: written by this session's own program hprint.py, which lays hand texts into the kit's printer. -/
import Derived.Test.YtdfkecfmmcdgiaaHp0
import Derived.Test.YtdfkecfmmcdgiaaHpf37
namespace Go.Proofs.Ytdfkecfmmcdgiaa.Hp
open Go.RowKit Go.Proofs.YtdfkecfmmcdgiaaW.PrintWords Go.Proofs.YtdfkecfmmcdgiaaW.PrintLast Go.Proofs.YtdfkecfmmcdgiaaW.PrintMore
attribute [local go_sem] max2_int min2_int max_two min_two max_three min_three max_four min_four   -- for this text's walks alone
set_option linter.unusedVariables false
set_option linter.unusedSimpArgs false

/-! ### marks_Marks_Changed: function 29 -/
def chg (l0 l1 : List Int) (j : Nat) : Bool := rd l0 j == 1 || rd l0 j == 2 || ((rd l0 j == 0) != (rd l1 j == 0))
def chL (l0 l1 : List Int) (k : Nat) : List Int := ((List.range k).filter (chg l0 l1)).map (fun j : Nat => (j : Int))
theorem chL_yes (l0 l1 : List Int) (k : Nat) (h : chg l0 l1 k = true) : chL l0 l1 (k + 1) = chL l0 l1 k ++ [(k : Int)] := by
  unfold chL
  rw [List.range_succ, List.filter_append, List.map_append]
  simp [h]
theorem chL_no (l0 l1 : List Int) (k : Nat) (h : chg l0 l1 k = false) : chL l0 l1 (k + 1) = chL l0 l1 k := by
  unfold chL
  rw [List.range_succ, List.filter_append, List.map_append]
  simp [h]
theorem chL_len (l0 l1 : List Int) (k : Nat) : (chL l0 l1 k).length ≤ k := by
  unfold chL
  rw [List.length_map]
  have := List.length_filter_le (chg l0 l1) (List.range k)
  rw [List.length_range] at this
  exact this
def marks_Marks_Changed.f (l0 l1 : List Int) : Option (List Int) := if l0.length < 1000000 ∧ l1.length < 1000000 then some (chL l0 l1 (max l0.length l1.length)) else none
theorem at_f (x : List Int) (i : Nat) : marks_Marks_at.f x i = some (rd x i) := by
  unfold marks_Marks_at.f
  by_cases h : (i : Int) < (x.length : Int)
  · rw [if_pos h, if_pos (by omega)]
  · rw [if_neg h]; simp [rd, List.getElem?_eq_none (show x.length ≤ i by omega)]
theorem marks_Marks_Changed.calls0 (N : Nat) (A0 : Option Addr) (c0 : Nat) (l0 : List Int) (A1 : Option Addr) (c1 : Nat) (l1 : List Int) (w : World) (hr0 : Kd.C (Kd.int .u8) w A0 l0.length l0) (hc0 : l0.length ≤ c0) (hr1 : Kd.C (Kd.int .u8) w A1 l1.length l1) (hc1 : l1.length ≤ c1) (hb0 : l0.length < 1000000) (hb1 : l1.length < 1000000)
    (hcase : ((l0.length : Int) < l1.length ∧ N = l1.length) ∨ (¬ (l0.length : Int) < l1.length ∧ N = l0.length)) :
    Calls Try.prog 29 #[.slice A0 l0.length c0, .slice A1 l1.length c1] w fun e w' => ∃ v0_ : Value, e = .returned (v0_) ∧ Kd.R (Kd.int .i64) 3 w' w.heap.size (fun _ => True) v0_ (chL l0 l1 N) ∧ Below w.heap.size w w' := by
  have HA0 := fun W (h : Kd.C (Kd.int .u8) W A0 l0.length l0) (k : Nat) => marks_Marks_at.calls A0 c0 l0 k (rd l0 k) W h hc0 (at_f l0 k)
  have HA1 := fun W (h : Kd.C (Kd.int .u8) W A1 l1.length l1) (k : Nat) => marks_Marks_at.calls A1 c1 l1 k (rd l1 k) W h hc1 (at_f l1 k)
  have HR0 := Aside0.mk hr0
  have HR1 := Aside0.mk hr1
  clear hr0 hr1
  have HN := Aside0.mk (show N < 1000000 by omega)
  have hcc : ((l0.length : Int) < l1.length ∧ (l1.length : Int) = (N : Int)) ∨ (¬ (l0.length : Int) < l1.length ∧ (l0.length : Int) = (N : Int)) := by omega
  clear hcase
  rcases hcc with ⟨hc, hN⟩ | ⟨hc, hN⟩
  all_goals (
    go_enter Try.func29, Try.ntmps29
    go_wp2
    clear hc hN
    go_loopw [5, 13] (fun v5 v13 wr => ∃ k : Nat, k ≤ N ∧ v13 = .int .i64 k ∧ Aside0 (Kd.R (Kd.int .i64) 3 wr w.heap.size (fun _ => True) v5 (chL l0 l1 k)) ∧ Aside0 (Below w.heap.size w wr)) (fun _ v13 _ => N - (intOf v13).toNat)
    case atStart => exact ⟨0, by omega, rfl, ⟨Kd.R_nil _ _ _ _ _⟩, ⟨Below.refl _ _⟩⟩
    case round =>
      obtain ⟨k, hk, rfl, HO, HB⟩ := hrel
      by_cases hlt : k < N
      · have hkn : (k : Int) < N := by omega
        have hL := chL_len l0 l1 k
        have hnn := HN.out
        have HL := Aside0.mk (show ((chL l0 l1 k).length + 1) * 8 ≤ 140737488355328 by omega)
        have HC0 := Aside0.mk (Kd.C_below HR0.out HB.out)
        have HC1 := Aside0.mk (Kd.C_below HR1.out HB.out)
        clear hL
        have hchg : chg l0 l1 k = (rd l0 k == 1 || rd l0 k == 2 || ((rd l0 k == 0) != (rd l1 k == 0))) := rfl
        have HX0 := HA0 _ HC0.out k
        have HX1 := fun n => HA1 _ (Kd.C_drewN HC1.out n) k
        clear HA0 HA1
        generalize rd l0 k = x at *
        generalize rd l1 k = y at *
        go_wp2_with fail
        refine HX0.mono ?_
        rintro e w1 ⟨rfl, ⟨n1, rfl⟩⟩
        clear HX0
        by_cases h1 : x = 1
        · have HY := Aside0.mk (chL_yes l0 l1 k (by rw [hchg, h1]; rfl))
          clear hchg HX1
          subst h1
          go_wp2_with (first | ((with_reducible refine gate_builtin (b := .append) (xs := #[.tmp 34, .tmp 36]) rfl ?_); at_builtin; refine Kd.R_append (Kd.int .i64) (w0 := w) w.heap.size rfl (.tmp 34) (.tmp 36) 51 3 (.int .i64 0) 8 rfl Try.underlying51 info3 rfl (by decide) (by omega) _ (chL l0 l1 k) (k : Int) [.int .i64 (k : Int)] (fun _ => True) (fun _ => False) rfl rfl rfl (fun _ h => h.elim) (fun _ _ => trivial) ((Kd.R_drewN HO.out _)) ((pw_below_drewN HB.out _)) ((pw_below_drewN HB.out 0).size) (HL.out) ?_; intro v9 w9 ho hb hg hat; clear hg hat; have HO9 := Aside0.mk ho; have HB9 := Aside0.mk hb; clear ho hb))
          exact ⟨⟨k + 1, by omega, by go_num, ⟨by rw [HY.out]; exact HO9.out⟩, HB9⟩, by simp [intOf]; omega⟩
        have h1b : (x == 1) = false := beq_eq_false_iff_ne.2 h1
        by_cases h2 : x = 2
        · have HY := Aside0.mk (chL_yes l0 l1 k (by rw [hchg, h2]; rfl))
          clear hchg HX1 h1 h1b
          subst h2
          go_wp2_with (first | ((with_reducible refine gate_builtin (b := .append) (xs := #[.tmp 34, .tmp 36]) rfl ?_); at_builtin; refine Kd.R_append (Kd.int .i64) (w0 := w) w.heap.size rfl (.tmp 34) (.tmp 36) 51 3 (.int .i64 0) 8 rfl Try.underlying51 info3 rfl (by decide) (by omega) _ (chL l0 l1 k) (k : Int) [.int .i64 (k : Int)] (fun _ => True) (fun _ => False) rfl rfl rfl (fun _ h => h.elim) (fun _ _ => trivial) ((Kd.R_drewN HO.out _)) ((pw_below_drewN HB.out _)) ((pw_below_drewN HB.out 0).size) (HL.out) ?_; intro v9 w9 ho hb hg hat; clear hg hat; have HO9 := Aside0.mk ho; have HB9 := Aside0.mk hb; clear ho hb))
          exact ⟨⟨k + 1, by omega, by go_num, ⟨by rw [HY.out]; exact HO9.out⟩, HB9⟩, by simp [intOf]; omega⟩
        have h2b : (x == 2) = false := beq_eq_false_iff_ne.2 h2
        rw [h1b, h2b, Bool.false_or, Bool.false_or] at hchg
        generalize hq : ((x == 0) != (y == 0)) = q at *
        cases q
        · have HY := Aside0.mk (chL_no l0 l1 k hchg)
          have hq2 : ((x == 0) == (y == 0)) = true := by revert hq; cases (x == 0) <;> cases (y == 0) <;> simp
          clear hchg h1 h2
          go_wp2_with fail
          refine (HX1 _).mono ?_
          rintro e w2 ⟨rfl, ⟨n2, rfl⟩⟩
          go_wp2
          exact ⟨⟨k + 1, by omega, by go_num, ⟨by rw [HY.out]; exact Kd.R_drewN HO.out _⟩, ⟨pw_below_drewN HB.out _⟩⟩, by simp [intOf]; omega⟩
        · have HY := Aside0.mk (chL_yes l0 l1 k hchg)
          have hq2 : ((x == 0) == (y == 0)) = false := by revert hq; cases (x == 0) <;> cases (y == 0) <;> simp
          clear hchg h1 h2
          go_wp2_with fail
          refine (HX1 _).mono ?_
          rintro e w2 ⟨rfl, ⟨n2, rfl⟩⟩
          go_wp2_with (first | ((with_reducible refine gate_builtin (b := .append) (xs := #[.tmp 34, .tmp 36]) rfl ?_); at_builtin; refine Kd.R_append (Kd.int .i64) (w0 := w) w.heap.size rfl (.tmp 34) (.tmp 36) 51 3 (.int .i64 0) 8 rfl Try.underlying51 info3 rfl (by decide) (by omega) _ (chL l0 l1 k) (k : Int) [.int .i64 (k : Int)] (fun _ => True) (fun _ => False) rfl rfl rfl (fun _ h => h.elim) (fun _ _ => trivial) ((Kd.R_drewN HO.out _)) ((pw_below_drewN HB.out _)) ((pw_below_drewN HB.out 0).size) (HL.out) ?_; intro v9 w9 ho hb hg hat; clear hg hat; have HO9 := Aside0.mk ho; have HB9 := Aside0.mk hb; clear ho hb))
          exact ⟨⟨k + 1, by omega, by go_num, ⟨by rw [HY.out]; exact HO9.out⟩, HB9⟩, by simp [intOf]; omega⟩
      · obtain rfl : k = N := by omega
        go_wp2
        go_ret
        exact ⟨_, rfl, HO.out, HB.out⟩)
theorem marks_Marks_Changed.calls (A0 : Option Addr) (c0 : Nat) (l0 : List Int) (A1 : Option Addr) (c1 : Nat) (l1 : List Int) (r : List Int) (w : World) (hr0 : Kd.C (Kd.int .u8) w A0 l0.length l0) (hc0 : l0.length ≤ c0) (hr1 : Kd.C (Kd.int .u8) w A1 l1.length l1) (hc1 : l1.length ≤ c1) (h : marks_Marks_Changed.f l0 l1 = some r) :
    Calls Try.prog 29 #[.slice A0 l0.length c0, .slice A1 l1.length c1] w fun e w' => ∃ v0_ : Value, e = .returned (v0_) ∧ Kd.R (Kd.int .i64) 3 w' w.heap.size (fun _ => True) v0_ r ∧ Below w.heap.size w w' := by
  unfold marks_Marks_Changed.f at h
  split at h
  case isFalse => cases h
  rename_i hp
  obtain rfl := Option.some.inj h
  exact marks_Marks_Changed.calls0 _ A0 c0 l0 A1 c1 l1 w hr0 hc0 hr1 hc1 hp.1 hp.2 (by omega)

end Go.Proofs.Ytdfkecfmmcdgiaa.Hp
