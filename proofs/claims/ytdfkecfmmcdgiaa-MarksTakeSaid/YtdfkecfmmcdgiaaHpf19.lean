/- Contracts of functions of the given program, and what they lean on: written by this session's own program hprint.py, which lays hand texts into the kit's printer. -/
import Derived.Test.YtdfkecfmmcdgiaaHp0
namespace Go.Proofs.Ytdfkecfmmcdgiaa.Hp
open Go.RowKit Go.Proofs.YtdfkecfmmcdgiaaW.PrintWords Go.Proofs.YtdfkecfmmcdgiaaW.PrintLast Go.Proofs.YtdfkecfmmcdgiaaW.PrintMore
attribute [local go_sem] max2_int min2_int max_two min_two max_three min_three max_four min_four   -- for this text's walks alone
set_option linter.unusedVariables false
set_option linter.unusedSimpArgs false

/-! ### marks_Scan: function 19 -/
def marks_Scan.v (l0 l1 : List Bool) (j : Nat) : Int := if rdOf false l0 j = true then (if (j : Int) < l1.length ∧ rdOf false l1 j = true then 3 else 1) else 0
def marks_Scan.o (l0 l1 : List Bool) : Nat → List Int
  | 0 => List.replicate l0.length 0
  | k + 1 => (marks_Scan.o l0 l1 k).set k (marks_Scan.v l0 l1 k)
theorem marks_Scan.o_get (l0 l1 : List Bool) (k j : Nat) (hk : k ≤ l0.length) (hj : j < l0.length) : (marks_Scan.o l0 l1 k)[j]? = some (if j < k then marks_Scan.v l0 l1 j else 0) := by
  induction k with
  | zero => simp [marks_Scan.o, hj]
  | succ k ih =>
    have h := ih (by omega)
    unfold marks_Scan.o
    rw [List.getElem?_set]
    by_cases e : k = j
    · subst e
      have : k < (marks_Scan.o l0 l1 k).length := by
        rcases Nat.lt_or_ge k (marks_Scan.o l0 l1 k).length with h2 | h2
        · exact h2
        · rw [List.getElem?_eq_none h2] at h; cases h
      simp [this]
    · rw [if_neg e, h]
      by_cases h3 : j < k
      · rw [if_pos h3, if_pos (by omega)]
      · rw [if_neg h3, if_neg (by omega)]
theorem marks_Scan.o_len (l0 l1 : List Bool) (k : Nat) : (marks_Scan.o l0 l1 k).length = l0.length := by
  induction k with
  | zero => simp [marks_Scan.o]
  | succ k ih => simp [marks_Scan.o, ih]
def marks_Scan.L (l0 l1 : List Bool) : List Int := (List.range l0.length).map (marks_Scan.v l0 l1)
theorem marks_Scan.o_all (l0 l1 : List Bool) : marks_Scan.o l0 l1 l0.length = marks_Scan.L l0 l1 := by
  apply List.ext_getElem?
  intro j
  by_cases hj : j < l0.length
  · rw [marks_Scan.o_get l0 l1 _ j (Nat.le_refl _) hj, if_pos hj]
    simp [marks_Scan.L, hj]
  · rw [List.getElem?_eq_none (by rw [marks_Scan.o_len]; omega), List.getElem?_eq_none (by simp [marks_Scan.L]; omega)]
theorem marks_Scan.o_zero (l0 l1 : List Bool) (k : Nat) (hk : k < l0.length) (h0 : marks_Scan.v l0 l1 k = 0) : marks_Scan.o l0 l1 (k + 1) = marks_Scan.o l0 l1 k := by
  have h := marks_Scan.o_get l0 l1 k k (by omega) hk
  rw [if_neg (by omega)] at h
  show (marks_Scan.o l0 l1 k).set k _ = _
  rw [h0]
  apply List.ext_getElem?
  intro j
  rw [List.getElem?_set]
  by_cases e : k = j
  · subst e; rw [if_pos rfl, if_pos (by rw [marks_Scan.o_len]; omega), h]
  · rw [if_neg e]
def marks_Scan.f (l0 l1 : List Bool) : Option (List Int) := if l0.length ≤ 1000000 then some (marks_Scan.L l0 l1) else none
theorem marks_Scan.calls (A0 : Option Addr) (c0 : Nat) (l0 : List Bool) (A1 : Option Addr) (c1 : Nat) (l1 : List Bool) (r : List Int) (w : World) (hr0 : Kd.C Kd.bool w A0 l0.length l0) (_hc0 : l0.length ≤ c0) (hr1 : Kd.C Kd.bool w A1 l1.length l1) (_hc1 : l1.length ≤ c1) (h : marks_Scan.f l0 l1 = some r) :
    Calls Try.prog 19 #[.slice A0 l0.length c0, .slice A1 l1.length c1] w fun e w' => ∃ v0_ : Value, e = .returned (v0_) ∧ Kd.R (Kd.int .u8) 5 w' w.heap.size (fun _ => True) v0_ r ∧ Below w.heap.size w w' := by
  unfold marks_Scan.f at h
  split at h
  case isFalse => cases h
  rename_i hp
  obtain rfl := Option.some.inj h
  clear h
  rw [← marks_Scan.o_all]
  have hm1 := hr1.2.1
  have HR0 := Aside0.mk hr0
  have HR1 := Aside0.mk hr1
  clear hr0 hr1
  go_enter Try.func19, Try.ntmps19
  go_wp2_with (first | ((with_reducible refine gate_dst (N := 10) rfl ?_); (try (refine gate_guard (by rfl) ?_; dsimp only)); refine Kd.R_make (Kd.int .u8) (w0 := w) w.heap.size 5 rfl (N := 10) rfl 25 _ _ rfl (l0.length : Int) rfl rfl Try.underlying25 (.int .u8 0) 1 info5 rfl (by decide) (by omega) 0 (ok := fun _ => True) (okp := fun _ => True) rfl (fun _ hk => hk) trivial (by omega) (by omega) (Below.refl _ _) (Nat.le_refl _) ?_; intro v2 w2 ho hb hg hnew; clear hg hnew; rw [Int.toNat_natCast] at ho; have HO := Aside0.mk ho; have HB := Aside0.mk hb; clear ho hb))
  go_loopw [13] (fun v13 wr => ∃ k : Nat, k ≤ l0.length ∧ v13 = .int .i64 k ∧ Aside0 (Kd.R (Kd.int .u8) 5 wr w.heap.size (fun _ => True) v2 (marks_Scan.o l0 l1 k)) ∧ Aside0 (Below w.heap.size w wr)) (fun v13 _ => l0.length - (intOf v13).toNat)
  case atStart => exact ⟨0, by omega, rfl, HO, HB⟩
  case round =>
    clear HO HB
    obtain ⟨k, hk, rfl, HO, HB⟩ := hrel
    by_cases hlt : k < l0.length
    · obtain ⟨ad, e, hx⟩ := Kd.at_bool HR0.out k (by omega) (by omega)
      subst e
      simp only [Int.toNat_natCast] at hx
      replace hx := (HB.out.cell (World.block_lt_of_cell? w _ hx)).trans hx
      obtain ⟨g, cap, rfl, hgb, hgl, -⟩ := Kd.R_form HO.out (by rw [marks_Scan.o_len]; omega)
      rw [marks_Scan.o_len] at HO ⊢
      have HO1 := HO.out
      obtain ⟨-, hf⟩ := Kd.R_celln (enc := Value.int .u8) (h1 := fun _ => rfl) 0 HO1 (k : Int) (by omega) (by omega)
      obtain ⟨hold, -⟩ := Kd.R_celln (enc := Value.int .u8) (h1 := fun _ => rfl) 0 HO1 (k : Int) (by omega) (by omega)
      rw [Int.toNat_natCast] at hf hold
      have HP := fun x => Kd.R_putn (enc := Value.int .u8) (h1 := fun _ => rfl) HO1 (k : Int) x
      simp only [Int.toNat_natCast] at HP
      have HP' := Aside0.mk HP
      clear HP HO1
      by_cases hb0 : rdOf false l0 (k : Int) = true
      · rw [hb0] at hx
        by_cases hc : (k : Int) < l1.length
        · obtain ⟨ad1, e1, hx1⟩ := Kd.at_bool HR1.out k (by omega) (by omega)
          subst e1
          simp only [Int.toNat_natCast] at hx1
          replace hx1 := (HB.out.cell (World.block_lt_of_cell? w _ hx1)).trans hx1
          by_cases hb1 : rdOf false l1 (k : Int) = true
          · rw [hb1] at hx1
            have HV : Aside0 (marks_Scan.v l0 l1 k = 3) := ⟨by unfold marks_Scan.v; rw [if_pos hb0, if_pos ⟨hc, hb1⟩]⟩
            clear hb0 hb1
            go_wp2
            refine ⟨⟨k + 1, by omega, by go_num, ⟨?_⟩, ⟨HB.out.setCell (p := ⟨g, k, none⟩) hgb _⟩⟩, by simp [intOf]; omega⟩
            show Kd.R _ _ _ _ _ _ ((marks_Scan.o l0 l1 k).set k _)
            rw [HV.out]
            exact HP'.out 3
          · rw [Bool.not_eq_true] at hb1
            rw [hb1] at hx1
            have HV : Aside0 (marks_Scan.v l0 l1 k = 1) := ⟨by unfold marks_Scan.v; rw [if_pos hb0, if_neg (by rw [hb1]; simp)]⟩
            clear hb0 hb1
            go_wp2
            refine ⟨⟨k + 1, by omega, by go_num, ⟨?_⟩, ⟨HB.out.setCell (p := ⟨g, k, none⟩) hgb _⟩⟩, by simp [intOf]; omega⟩
            show Kd.R _ _ _ _ _ _ ((marks_Scan.o l0 l1 k).set k _)
            rw [HV.out]
            exact HP'.out 1
        · have HV : Aside0 (marks_Scan.v l0 l1 k = 1) := ⟨by unfold marks_Scan.v; rw [if_pos hb0, if_neg (by intro h; exact hc h.1)]⟩
          have hcd : decide ((k : Int) < l1.length) = false := decide_eq_false hc
          clear hb0
          go_wp2
          refine ⟨⟨k + 1, by omega, by go_num, ⟨?_⟩, ⟨HB.out.setCell (p := ⟨g, k, none⟩) hgb _⟩⟩, by simp [intOf]; omega⟩
          show Kd.R _ _ _ _ _ _ ((marks_Scan.o l0 l1 k).set k _)
          rw [HV.out]
          exact HP'.out 1
      · have HV : Aside0 (marks_Scan.o l0 l1 (k + 1) = marks_Scan.o l0 l1 k) := ⟨marks_Scan.o_zero l0 l1 k hlt (by unfold marks_Scan.v; rw [if_neg hb0])⟩
        rw [Bool.not_eq_true] at hb0
        rw [hb0] at hx
        clear hb0
        go_wp2
        refine ⟨⟨k + 1, by omega, by go_num, ⟨?_⟩, HB⟩, by simp [intOf]; omega⟩
        rw [HV.out]
        exact HO.out
    · obtain rfl : k = l0.length := by omega
      go_wp2
      go_ret
      exact ⟨_, rfl, HO.out, HB.out⟩

end Go.Proofs.Ytdfkecfmmcdgiaa.Hp
