/- Contracts of functions of the given program, and what they lean on: written by this session's own program hprint.py, which lays hand texts into the kit's printer. -/
import Derived.Test.YtgoipblpoopemaaHp0
import Derived.Test.YtgoipblpoopemaaHpacrcm
import Derived.Test.YtgoipblpoopemaaHpajoinm
import Derived.Test.YtgoipblpoopemaaHpf18
import Derived.Test.YtgoipblpoopemaaHpf17
namespace Go.Proofs.Ytgoipblpoopemaa.Hp
open Go.RowKit Go.Proofs.YtgoipblpoopemaaW.PrintWords Go.Proofs.YtgoipblpoopemaaW.PrintLast Go.Proofs.YtgoipblpoopemaaW.PrintMore
attribute [local go_sem] max2_int min2_int max_two min_two max_three min_three max_four min_four   -- for this text's walks alone
set_option linter.unusedVariables false
set_option linter.unusedSimpArgs false

/-! ### crc_Join: function 14 -/
/-- The check sum of two texts: the first one's register led over the second one's bytes. -/
def joinI (a b len : Int) : Int := bits .xor .u32 (((stepsB (8 * (max len 0).toNat) (BitVec.ofInt 32 a)).toNat : Nat) : Int) b
def crc_Join.f (a0 a1 a2 : Int) : Option Int := if 0 ≤ a0 ∧ a0 < 4294967296 ∧ a2 < 9223372036854775808 then some (joinI a0 a1 a2) else none
/-- The first matrix, of which i rows are filled. -/
def MatOne (i : Nat) : Array Value := ((List.range 32).map fun j => if j < i then Value.int .u32 ((stepsB 1 (bitB j)).toNat : Int) else Value.int .u32 0).toArray
theorem MatOne_at (i : Nat) (h : i < 32) : (MatOne i)[i]? = some (.int .u32 0) := by
  simp [MatOne, h]
theorem MatOne_set (i : Nat) (h : i < 32) (x : Int) (hx : x = ((stepsB 1 (bitB i)).toNat : Int)) : (MatOne i).setIfInBounds i (.int .u32 x) = MatOne (i + 1) := by
  subst hx
  refine Array.ext_getElem? fun j => ?_
  simp only [MatOne, Array.getElem?_setIfInBounds, List.getElem?_toArray, List.getElem?_map]
  by_cases e : i = j
  · subst e
    simp [h]
  · by_cases hj : j < 32
    · have : (j < i + 1) = (j < i) := by simp only [eq_iff_iff]; omega
      simp [e, hj, this]
    · simp [e, hj]
theorem i64_and1 (n : Nat) (h : n ≤ 9223372036854775807) : bits .and .i64 (n : Int) 1 = ((n % 2 : Nat) : Int) := by
  exact (bits_mask .i64 63 (by decide) (fun m h0 h1 => by rw [IntKind.wrap_i64]; omega) 1 (by decide) (n : Int) (by omega) (by omega)).trans (by omega)
theorem twice_odd (k n : Nat) (h : n % 2 = 1) : (k + k) * (n / 2) + k = k * n := by
  obtain ⟨m, rfl⟩ : ∃ m, n = 2 * m + 1 := ⟨n / 2, by omega⟩
  rw [show (2 * m + 1) / 2 = m by omega, Nat.mul_add, Nat.mul_one, ← Nat.mul_assoc, Nat.mul_two]
theorem twice_even (k n : Nat) (h : n % 2 = 0) : (k + k) * (n / 2) = k * n := by
  obtain ⟨m, rfl⟩ : ∃ m, n = 2 * m := ⟨n / 2, by omega⟩
  rw [show 2 * m / 2 = m by omega, ← Nat.mul_assoc, Nat.mul_two]
theorem pow_bit (i : Nat) (h1 : 1 ≤ i) (h : i < 32) : (2 : Int) ^ (i - 1) % 4294967296 = ((stepsB 1 (bitB i)).toNat : Int) := by
  obtain ⟨j, rfl⟩ : ∃ j, i = j + 1 := ⟨i - 1, by omega⟩
  rw [stepsB_bit j h, Nat.add_sub_cancel]
  unfold bitB
  rw [BitVec.toNat_shiftLeft, Nat.shiftLeft_eq]
  simp
theorem MatOne_all : MatOne 32 = Mat 1 := by
  refine Array.ext_getElem? fun j => ?_
  simp only [MatOne, Mat, List.getElem?_toArray, List.getElem?_map]
  by_cases hj : j < 32
  · simp [hj]
  · simp [hj]
theorem MatOne_one : MatOne 1 = #[.int .u32 2197175160, .int .u32 0, .int .u32 0, .int .u32 0, .int .u32 0, .int .u32 0, .int .u32 0, .int .u32 0, .int .u32 0, .int .u32 0, .int .u32 0, .int .u32 0, .int .u32 0, .int .u32 0, .int .u32 0, .int .u32 0, .int .u32 0, .int .u32 0, .int .u32 0, .int .u32 0, .int .u32 0, .int .u32 0, .int .u32 0, .int .u32 0, .int .u32 0, .int .u32 0, .int .u32 0, .int .u32 0, .int .u32 0, .int .u32 0, .int .u32 0, .int .u32 0] := by kernel_rfl
set_option maxHeartbeats 800000 in
theorem crc_Join.calls (a0 a1 a2 : Int) (r : Int) (w : World) (h : crc_Join.f a0 a1 a2 = some r) :
    Calls Try.prog 14 #[.int .u32 a0, .int .u32 a1, .int .i64 a2] w fun e w' => e = .returned (.int .u32 r) ∧ Below w.heap.size w w' := by
  unfold crc_Join.f at h
  split at h
  case isFalse => cases h
  rename_i hp
  obtain ⟨p0, p1, p2⟩ := hp
  obtain rfl := Option.some.inj h
  clear h
  go_enter Try.func14, Try.ntmps14
  go_wp2
  go_loopw [8] (fun v8 wr => ∃ i : Nat, 1 ≤ i ∧ i ≤ 32 ∧ v8 = .int .i64 i ∧ Aside0 (wr.heap[w.heap.size]? = some (.cells (MatOne i) 42 (0, 0))) ∧ Aside0 (Below w.heap.size w wr)) (fun v8 _ => 32 - (intOf v8).toNat)
  case atStart => exact ⟨1, by omega, by omega, rfl, ⟨(heap_alloc_new w _).trans (by rw [MatOne_one])⟩, ⟨below_alloc (Below.refl _ _) _⟩⟩
  case round =>
    obtain ⟨i, hi1, hi, rfl, HN, HB⟩ := hrel
    by_cases h32 : i < 32
    · have hold : wr.cell? ⟨w.heap.size, i, none⟩ = some (.int .u32 0) := by rw [blk_cell HN.out, MatOne_at i h32]
      have hfr : wr.frozen? ⟨w.heap.size, i, none⟩ = false := blk_frozen HN.out i
      go_wp2
      go_region
      go_wp2
      refine ⟨⟨i + 1, by omega, by omega, by go_num, ⟨?_⟩, ⟨(HB.out.setCell (p := ⟨w.heap.size, i, none⟩) (Nat.le_refl _) _).drew⟩⟩, by simp [intOf]; omega⟩
      rw [← MatOne_set i h32 _ (pow_bit i hi1 h32)]
      exact blk_set HN.out i _
    · obtain rfl : i = 32 := by omega
      have HN2 := HN.out
      rw [MatOne_all] at HN2
      have HN3 := Aside0.mk HN2
      clear HN2 HN
      go_wp2
      go_loopw [7, 23] (fun v7 v23 wr => ∃ j g : Nat, j ≤ 3 ∧ v23 = .int .i64 j ∧ v7 = .pointer (some ⟨g, 0, none⟩) ∧ Aside0 (wr.heap[g]? = some (.cells (Mat (2 ^ j)) 42 (0, 0))) ∧ Aside0 (Below w.heap.size w wr)) (fun _ v23 _ => 3 - (intOf v23).toNat)
      case atStart => exact ⟨0, w.heap.size, by omega, rfl, rfl, HN3, HB⟩
      case round =>
        obtain ⟨j, g, hj, rfl, rfl, HG, HB2⟩ := hrel
        by_cases h3 : j < 3
        · go_wp2_with fail
          refine (crc_twice.calls (2 ^ j) g _ HG.out).mono ?_
          rintro e w4 ⟨g2, rfl, hg2, hb⟩
          have HG2 := Aside0.mk hg2
          have HB4 := Aside0.mk (below_step HB2.out hb)
          clear hg2 hb
          go_wp2
          refine ⟨⟨_, _, _, _, _, _, ?_, rfl⟩, ?_⟩
          · exact ⟨j + 1, g2, by omega, by go_num, rfl, ⟨by rw [Nat.pow_succ, Nat.mul_two]; exact HG2.out⟩, HB4⟩
          · simp [intOf]; omega
        · obtain rfl : j = 3 := by omega
          have HG8 := Aside0.mk (show _ = some (Obj.cells (Mat 8) 42 (0, 0)) from HG.out)
          clear HG
          clear HN3 HB h32 hi hi1 h3 hj
          go_wp2
          all_goals
            go_loopw [0, 7, 9] (fun v0 v7 v9 wr => ∃ (n k g : Nat) (b : BitVec 32), v9 = .int .i64 n ∧ v0 = .int .u32 (b.toNat : Int) ∧ v7 = .pointer (some ⟨g, 0, none⟩) ∧ Aside0 (wr.heap[g]? = some (.cells (Mat k) 42 (0, 0))) ∧ Aside0 (Below w.heap.size w wr) ∧ Aside0 (stepsB (k * n) b = stepsB (8 * (max a2 0).toNat) (BitVec.ofInt 32 a0)) ∧ n ≤ 9223372036854775807) (fun _ _ v9 _ => (intOf v9).toNat)
            case atStart => exact ⟨(max a2 0).toNat, 8, g, BitVec.ofInt 32 a0, by congr 1; omega, by rw [bv_toNat a0 p0 p1], rfl, HG8, HB2, ⟨rfl⟩, by omega⟩
            case round =>
              obtain ⟨n, k, g2, b, rfl, rfl, rfl, HG, HB3, HS, hn⟩ := hrel
              clear HG8
              by_cases h0 : n = 0
              · subst h0
                go_wp2
                go_ret
                refine ⟨?_, HB3.out⟩
                have hs := HS.out
                rw [Nat.mul_zero] at hs
                unfold joinI
                rw [← hs]
                rfl
              · have hpos : (0 : Int) < (n : Int) := by omega
                have hand : bits .and .i64 (n : Int) 1 = ((n % 2 : Nat) : Int) := i64_and1 n hn
                by_cases h1 : n % 2 = 1
                · have hb : (bits .and .i64 (n : Int) 1 == 1) = true := by rw [hand, h1]; rfl
                  clear hand
                  go_wp2_with fail
                  refine (crc_of.calls k g2 b _ HG.out).mono ?_
                  rintro e w5 ⟨rfl, rfl⟩
                  go_wp2_with fail
                  refine (crc_twice.calls k g2 _ HG.out).mono ?_
                  rintro e w6 ⟨g3, rfl, hg3, hb6⟩
                  have HG3 := Aside0.mk hg3
                  have HB6 := Aside0.mk (below_step HB3.out hb6)
                  clear hg3 hb6
                  go_wp2
                  refine ⟨⟨n / 2, k + k, g3, stepsB k b, by go_num, rfl, rfl, HG3, HB6, ⟨?_⟩, by omega⟩, by simp [intOf]; omega⟩
                  rw [← stepsB_add, ← HS.out, twice_odd k n h1]
                · have hb : (bits .and .i64 (n : Int) 1 == 1) = false := by rw [hand, show n % 2 = 0 by omega]; rfl
                  clear hand
                  go_wp2_with fail
                  refine (crc_twice.calls k g2 _ HG.out).mono ?_
                  rintro e w6 ⟨g3, rfl, hg3, hb6⟩
                  have HG3 := Aside0.mk hg3
                  have HB6 := Aside0.mk (below_step HB3.out hb6)
                  clear hg3 hb6
                  go_wp2
                  refine ⟨⟨n / 2, k + k, g3, b, by go_num, rfl, rfl, HG3, HB6, ⟨?_⟩, by omega⟩, by simp [intOf]; omega⟩
                  rw [← HS.out, twice_even k n (by omega)]

end Go.Proofs.Ytgoipblpoopemaa.Hp
