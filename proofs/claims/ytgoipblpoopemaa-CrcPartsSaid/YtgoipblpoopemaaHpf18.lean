/- Contracts of functions of the given program, and what they lean on: written by this session's own program hprint.py, which lays hand texts into the kit's printer. -/
import Derived.Test.YtgoipblpoopemaaHp0
import Derived.Test.YtgoipblpoopemaaHpacrcm
import Derived.Test.YtgoipblpoopemaaHpajoinm
namespace Go.Proofs.Ytgoipblpoopemaa.Hp
open Go.RowKit Go.Proofs.YtgoipblpoopemaaW.PrintWords Go.Proofs.YtgoipblpoopemaaW.PrintLast Go.Proofs.YtgoipblpoopemaaW.PrintMore
attribute [local go_sem] max2_int min2_int max_two min_two max_three min_three max_four min_four   -- for this text's walks alone
set_option linter.unusedVariables false
set_option linter.unusedSimpArgs false

/-! ### crc_matrix_of: function 18 -/
set_option maxHeartbeats 400000 in
theorem crc_of.calls (k g : Nat) (b : BitVec 32) (w : World) (hb : w.heap[g]? = some (.cells (Mat k) 42 (0, 0))) :
    Calls Try.prog 18 #[.pointer (some ⟨g, 0, none⟩), .int .u32 (b.toNat : Int)] w fun e w' => e = .returned (.int .u32 ((stepsB k b).toNat : Int)) ∧ w = w' := by
  have hcell : ∀ i : Nat, i < 32 → w.cell? ⟨g, i, none⟩ = some (.int .u32 ((stepsB k (bitB i)).toNat : Int)) := by
    intro i hi
    rw [blk_cell hb, Mat_at k i hi]
  have HC := Aside0.mk hcell
  clear hcell hb
  go_enter Try.func18, Try.ntmps18
  go_wp2
  go_loop [1, 5, 6] (fun v1 v5 v6 => ∃ i : Nat, i ≤ 32 ∧ v6 = .int .i64 i ∧ v1 = .int .u32 ((b >>> i).toNat : Int) ∧ v5 = .int .u32 ((ofB k b i).toNat : Int)) (fun _ _ v6 => 32 - (intOf v6).toNat)
  case atStart => exact ⟨0, by omega, rfl, by simp, rfl⟩
  case round =>
    obtain ⟨i, hi, rfl, rfl, rfl⟩ := hrel
    by_cases hz : (b >>> i).toNat = 0
    · have hfin := Aside0.mk (lowB_all b i hi hz)
      have h1 : ((((b >>> i).toNat : Nat) : Int) != 0) = false := by rw [hz]; rfl
      go_wp2
      go_ret
      exact ⟨by rw [ofB_low, hfin.out]; rfl, rfl⟩
    · have hi32 : i < 32 := by
        rcases Nat.lt_or_ge i 32 with h | h
        · exact h
        · obtain rfl : i = 32 := by omega
          exact absurd (by rw [BitVec.toNat_ushiftRight, Nat.shiftRight_eq_div_pow]; exact Nat.div_eq_of_lt b.isLt) hz
      have h1 : ((((b >>> i).toNat : Nat) : Int) != 0) = true := by rw [bne_iff_ne]; omega
      have hc := HC.out i hi32
      have ey : b.getLsbD i = (b >>> i).getLsbD 0 := by rw [BitVec.getLsbD_ushiftRight]; simp
      have HS := Aside0.mk (show ofB k b (i + 1) = ofB k b i ^^^ (if (b >>> i).getLsbD 0 then stepsB k (bitB i) else 0#32) from by rw [← ey]; rfl)
      have HH := Aside0.mk (shr_b b i)
      have hlt : (b >>> i).toNat < 4294967296 := (b >>> i).isLt
      clear ey hz
      generalize hy : b >>> i = y at *
      have HY := Aside0.mk hy
      clear hy
      generalize stepsB k (bitB i) = s at *
      have hlo : (ofB k b i).toNat < 4294967296 := (ofB k b i).isLt
      have hls : s.toNat < 4294967296 := s.isLt
      generalize hO : ofB k b i = o at *
      clear hO
      go_wp2
      refine ⟨⟨i + 1, by omega, by go_num, ?_, ?_⟩, by simp [intOf]; omega⟩
      · rw [← HH.out]
      · rw [HS.out, of_step]
/-- A matrix of which i rows are told twice. -/
def MatTo (k i : Nat) : Array Value := ((List.range 32).map fun j => if j < i then Value.int .u32 ((stepsB (k + k) (bitB j)).toNat : Int) else Value.int .u32 0).toArray
theorem MatTo_at (k i : Nat) (h : i < 32) : (MatTo k i)[i]? = some (.int .u32 0) := by
  simp [MatTo, h]
theorem MatTo_set (k i : Nat) (h : i < 32) : (MatTo k i).setIfInBounds i (.int .u32 ((stepsB (k + k) (bitB i)).toNat : Int)) = MatTo k (i + 1) := by
  refine Array.ext_getElem? fun j => ?_
  simp only [MatTo, Array.getElem?_setIfInBounds, List.getElem?_toArray, List.getElem?_map]
  by_cases e : i = j
  · subst e
    simp [h]
  · by_cases hj : j < 32
    · have : (j < i + 1) = (j < i) := by simp only [eq_iff_iff]; omega
      simp [e, hj, this]
    · simp [e, hj]
theorem MatTo_all (k : Nat) : MatTo k 32 = Mat (k + k) := by
  refine Array.ext_getElem? fun j => ?_
  simp only [MatTo, Mat, List.getElem?_toArray, List.getElem?_map]
  by_cases hj : j < 32
  · simp [hj]
  · simp [hj]
theorem MatTo_zero (k : Nat) : MatTo k 0 = #[.int .u32 0, .int .u32 0, .int .u32 0, .int .u32 0, .int .u32 0, .int .u32 0, .int .u32 0, .int .u32 0, .int .u32 0, .int .u32 0, .int .u32 0, .int .u32 0, .int .u32 0, .int .u32 0, .int .u32 0, .int .u32 0, .int .u32 0, .int .u32 0, .int .u32 0, .int .u32 0, .int .u32 0, .int .u32 0, .int .u32 0, .int .u32 0, .int .u32 0, .int .u32 0, .int .u32 0, .int .u32 0, .int .u32 0, .int .u32 0, .int .u32 0, .int .u32 0] := by rfl

end Go.Proofs.Ytgoipblpoopemaa.Hp
