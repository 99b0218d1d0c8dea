/- Contracts of functions of the given program, and what they lean on: written by this session's own program hprint.py, which lays hand texts into the kit's printer. -/
import Derived.Test.YtgoipblpoopemaaHp0
import Derived.Test.YtgoipblpoopemaaHpacrcm
import Derived.Test.YtgoipblpoopemaaHpajoinm
import Derived.Test.YtgoipblpoopemaaHpf18
namespace Go.Proofs.Ytgoipblpoopemaa.Hp
open Go.RowKit Go.Proofs.YtgoipblpoopemaaW.PrintWords Go.Proofs.YtgoipblpoopemaaW.PrintLast Go.Proofs.YtgoipblpoopemaaW.PrintMore
attribute [local go_sem] max2_int min2_int max_two min_two max_three min_three max_four min_four   -- for this text's walks alone
set_option linter.unusedVariables false
set_option linter.unusedSimpArgs false

/-! ### crc_matrix_twice: function 17 -/
set_option maxHeartbeats 800000 in
theorem crc_twice.calls (k g : Nat) (w : World) (hb : w.heap[g]? = some (.cells (Mat k) 42 (0, 0))) :
    Calls Try.prog 17 #[.pointer (some ⟨g, 0, none⟩)] w fun e w' => ∃ g', e = .returned (.pointer (some ⟨g', 0, none⟩)) ∧ w'.heap[g']? = some (.cells (Mat (k + k)) 42 (0, 0)) ∧ Below w.heap.size w w' := by
  have HM := Aside0.mk hb
  have hlt := blk_lt hb
  clear hb
  go_enter Try.func17, Try.ntmps17
  go_wp2
  go_loopw [7] (fun v7 wr => ∃ i : Nat, i ≤ 32 ∧ v7 = .int .i64 i ∧ Aside0 (wr.heap[w.heap.size]? = some (.cells (MatTo k i) 42 (0, 0))) ∧ Aside0 (Below w.heap.size w wr)) (fun v7 _ => 32 - (intOf v7).toNat)
  case atStart => exact ⟨0, by omega, rfl, ⟨(heap_alloc_new w _).trans (by rw [MatTo_zero])⟩, ⟨below_alloc (Below.refl _ _) _⟩⟩
  case round =>
    obtain ⟨i, hi, rfl, HN, HB⟩ := hrel
    by_cases h32 : i < 32
    · have HG := Aside0.mk ((HB.out.block g hlt).trans HM.out)
      have hcell : wr.cell? ⟨g, i, none⟩ = some (.int .u32 ((stepsB k (bitB i)).toNat : Int)) := by rw [blk_cell HG.out, Mat_at k i h32]
      have hold : wr.cell? ⟨w.heap.size, i, none⟩ = some (.int .u32 0) := by rw [blk_cell HN.out, MatTo_at k i h32]
      have hfr : wr.frozen? ⟨w.heap.size, i, none⟩ = false := blk_frozen HN.out i
      have HKP : Aside0 (∀ u : Value, (wr.setCell ⟨w.heap.size, i, none⟩ u).drew.cell? ⟨g, i, none⟩ = some (.int .u32 ((stepsB k (bitB i)).toNat : Int))) := ⟨fun u => (((Below.refl w.heap.size wr).setCell (p := ⟨w.heap.size, i, none⟩) (Nat.le_refl _) u).cell (p := ⟨g, i, none⟩) hlt).trans hcell⟩
      have h0 : (0 : Int) ≤ (i : Int) := by omega
      have h1 : (i : Int) < 32 := by omega
      go_wp2
      go_region_held3 (fun w' => w'.cell? ⟨g, i, none⟩ = some (.int .u32 ((stepsB k (bitB i)).toNat : Int)))
        (first | exact HKP.out _ | exact hcell | go_keep)
        ((go_at_call 18; refine (crc_of.calls k g (stepsB k (bitB i)) wr.drew HG.out).mono ?_; rintro e w' ⟨rfl, rfl⟩))
      go_wp2
      refine ⟨⟨i + 1, by omega, by go_num, ⟨?_⟩, ⟨(HB.out.setCell (p := ⟨w.heap.size, i, none⟩) (Nat.le_refl _) _).drew⟩⟩, by simp [intOf]; omega⟩
      rw [← MatTo_set k i h32, stepsB_add]
      exact blk_set HN.out i _
    · obtain rfl : i = 32 := by omega
      have HN2 := HN.out
      rw [MatTo_all] at HN2
      have HN3 := Aside0.mk HN2
      clear HN2
      go_wp2
      go_ret
      exact ⟨_, rfl, HN3.out, HB.out⟩

end Go.Proofs.Ytgoipblpoopemaa.Hp
