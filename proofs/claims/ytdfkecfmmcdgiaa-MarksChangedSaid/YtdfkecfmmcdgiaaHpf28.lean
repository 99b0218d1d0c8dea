/- Contracts of functions of the given program, and what they lean on: written by this session's own program hprint.py, which lays hand texts into the kit's printer. -/
import Derived.Test.YtdfkecfmmcdgiaaHp0
import Derived.Test.YtdfkecfmmcdgiaaHpf34
namespace Go.Proofs.Ytdfkecfmmcdgiaa.Hp
open Go.RowKit Go.Proofs.YtdfkecfmmcdgiaaW.PrintWords Go.Proofs.YtdfkecfmmcdgiaaW.PrintLast Go.Proofs.YtdfkecfmmcdgiaaW.PrintMore
attribute [local go_sem] max2_int min2_int max_two min_two max_three min_three max_four min_four   -- for this text's walks alone
set_option linter.unusedVariables false
set_option linter.unusedSimpArgs false

/-! ### marks_Marks_Frozen: function 28 -/
def frz (x : Int) : Int := if x = 1 then 3 else x
def frzO (l : List Int) (k : Nat) : List Int := (l.take k).map frz ++ l.drop k
theorem frzO_len (l : List Int) (k : Nat) : (frzO l k).length = l.length := by
  simp [frzO]; omega
theorem frzO_at (l : List Int) (k : Nat) (h : k < l.length) : (frzO l k)[k]? = some (rd l k) := by
  unfold frzO
  rw [List.getElem?_append_right (by simp; omega)]
  simp [rd, h]
  have : k - min k l.length = 0 := by omega
  rw [this]
  simp [h]
theorem frzO_step (l : List Int) (k : Nat) (h : k < l.length) : frzO l (k + 1) = (frzO l k).set k (frz (rd l k)) := by
  unfold frzO
  have hr : rd l k = l[k] := by simp [rd, h]
  rw [List.set_append_right _ _ (by simp; omega), hr]
  have e : k - ((l.take k).map frz).length = 0 := by simp; omega
  rw [e, List.take_succ_eq_append_getElem h, List.map_append, List.drop_eq_getElem_cons h, List.set_cons_zero, List.map_singleton, List.append_assoc, List.singleton_append]
def marks_Marks_Frozen.f (l0 : List Int) : Option (List Int) := if l0.length < 1000000 then some (l0.map frz) else none
theorem marks_Marks_Frozen.calls (A0 : Option Addr) (c0 : Nat) (l0 : List Int) (r : List Int) (w : World) (hr0 : Kd.C (Kd.int .u8) w A0 l0.length l0) (hc0 : l0.length ≤ c0) (h : marks_Marks_Frozen.f l0 = some r) :
    Calls Try.prog 28 #[.slice A0 l0.length c0] w fun e w' => ∃ v0_ : Value, e = .returned (v0_) ∧ Kd.R (Kd.int .u8) 5 w' w.heap.size (fun _ => True) v0_ r ∧ Below w.heap.size w w' := by
  unfold marks_Marks_Frozen.f at h
  split at h
  case isFalse => cases h
  rename_i hp
  obtain rfl := Option.some.inj h
  clear h
  have HCL := fun W (h : Kd.C (Kd.int .u8) W A0 l0.length l0) => marks_Marks_byte_34.calls A0 c0 l0 l0 W h hc0 (by unfold marks_Marks_byte_34.f; rw [if_pos (by omega)])
  have HR := Aside0.mk hr0
  clear hr0
  go_enter Try.func28, Try.ntmps28
  go_wp2_with fail
  refine (HCL _ HR.out).mono ?_
  rintro e w1 ⟨v1, rfl, ho, hb⟩
  obtain ⟨A1, c1, rfl, -⟩ := Kd.R_reads ho
  have e0 : frzO l0 0 = l0 := by simp [frzO]
  rw [← e0] at ho
  rw [frzO_len] at ho
  rw [e0] at ho
  have HO := Aside0.mk ho
  have HB := Aside0.mk hb
  clear ho hb HCL
  go_wp2
  go_loopw [10] (fun v10 wr => ∃ k : Nat, k ≤ l0.length ∧ v10 = .int .i64 k ∧ Aside0 (Kd.R (Kd.int .u8) 5 wr w.heap.size (fun _ => True) (.slice A1 l0.length c1) (frzO l0 k)) ∧ Aside0 (Below w.heap.size w wr)) (fun v10 _ => l0.length - (intOf v10).toNat)
  case atStart => exact ⟨0, by omega, rfl, ⟨by rw [e0]; exact HO.out⟩, HB⟩
  case round =>
    clear HO HB
    obtain ⟨k, hk, rfl, HO, HB⟩ := hrel
    by_cases hlt : k < l0.length
    · obtain ⟨g, cap, hgv, hgb, hgl, -⟩ := Kd.R_form HO.out (by rw [frzO_len]; omega)
      injection hgv with hA e3 e4
      subst hA
      clear e3 e4
      obtain ⟨hold, hf⟩ := Kd.R_celln (enc := Value.int .u8) (h1 := fun _ => rfl) 0 HO.out (k : Int) (by omega) (by omega)
      have hat : rdOf 0 (frzO l0 k) (k : Int) = rd l0 k := by
        unfold rdOf
        rw [Int.toNat_natCast, List.getD_eq_getElem?_getD, frzO_at l0 k hlt, Option.getD_some]
      rw [Int.toNat_natCast] at hf hold
      rw [hat] at hold
      have HP := Aside0.mk (fun x => Kd.R_putn (enc := Value.int .u8) (h1 := fun _ => rfl) HO.out (k : Int) x)
      have HST := Aside0.mk (frzO_step l0 k hlt)
      have hkl : (k : Int) < l0.length := by omega
      clear hat e0
      by_cases hx : rd l0 k = 1
      · rw [hx] at hold
        have hfr : frz (rd l0 k) = 3 := by unfold frz; rw [if_pos hx]
        have HFR := Aside0.mk hfr
        clear hx hfr
        go_wp2
        refine ⟨⟨k + 1, by omega, by go_num, ⟨?_⟩, ⟨HB.out.setCell (p := ⟨g, k, none⟩) hgb _⟩⟩, by simp [intOf]; omega⟩
        have := HP.out 3
        rw [Int.toNat_natCast] at this
        rw [HST.out, HFR.out]
        exact this
      · have hx2 : (rd l0 k == 1) = false := beq_eq_false_iff_ne.2 hx
        have hsame : (frzO l0 k).set k (rd l0 k) = frzO l0 k := by
          apply List.ext_getElem?
          intro j
          rw [List.getElem?_set]
          by_cases e : k = j
          · subst e
            rw [if_pos rfl, if_pos (by rw [frzO_len]; omega), frzO_at l0 k hlt]
          · rw [if_neg e]
        have HFR := Aside0.mk (show frz (rd l0 k) = rd l0 k by unfold frz; rw [if_neg hx])
        have HSA := Aside0.mk hsame
        clear hsame
        go_wp2
        refine ⟨⟨k + 1, by omega, by go_num, ⟨?_⟩, HB⟩, by simp [intOf]; omega⟩
        rw [HST.out, HFR.out, HSA.out]
        exact HO.out
    · obtain rfl : k = l0.length := by omega
      have HE := Aside0.mk (show frzO l0 l0.length = l0.map frz by simp [frzO])
      go_wp2
      go_ret
      exact ⟨_, rfl, by rw [← HE.out]; exact HO.out, HB.out⟩

end Go.Proofs.Ytdfkecfmmcdgiaa.Hp
