/- Contracts of functions of the given program, and what they lean on: written by this session's own program hprint.py, which lays hand texts into the kit's printer. -/
import Derived.Test.YtgoipblpoopemaaHp0
namespace Go.Proofs.Ytgoipblpoopemaa.Hp
open Go.RowKit Go.Proofs.YtgoipblpoopemaaW.PrintWords Go.Proofs.YtgoipblpoopemaaW.PrintLast Go.Proofs.YtgoipblpoopemaaW.PrintMore
attribute [local go_sem] max2_int min2_int max_two min_two max_three min_three max_four min_four   -- for this text's walks alone
set_option linter.unusedVariables false
set_option linter.unusedSimpArgs false

/-! ### crc_table: function 16 -/
def tstep (x : Int) : Int := bits .xor .u32 (x / 2) (2197175160 * bits .and .u32 x 1 % 4294967296)
def tsteps : Nat → Int → Int
  | 0, x => x
  | m + 1, x => tstep (tsteps m x)
theorem tstep_bd (x : Int) (h : 0 ≤ x) (h1 : x < 4294967296) : 0 ≤ tstep x ∧ tstep x < 4294967296 := by
  unfold tstep
  have a : 0 ≤ bits .and .u32 x 1 ∧ bits .and .u32 x 1 < 4294967296 := by
    rw [u32_and x 1 h h1 (by decide) (by decide)]
    have := @Nat.and_le_left x.toNat (1 : Int).toNat
    omega
  have b : x / 2 < 4294967296 := by omega
  rw [u32_xor _ _ (by omega) b (by omega) (by omega)]
  have c := Nat.xor_lt_two_pow (n := 32) (x := (x / 2).toNat) (y := (2197175160 * bits .and .u32 x 1 % 4294967296).toNat) (by omega) (by omega)
  omega
theorem tsteps_bd (m : Nat) (x : Int) (h : 0 ≤ x) (h1 : x < 4294967296) : 0 ≤ tsteps m x ∧ tsteps m x < 4294967296 := by
  induction m with
  | zero => exact ⟨h, h1⟩
  | succ m ih => exact tstep_bd _ ih.1 ih.2
def tabL (k : Nat) : List Value := (List.range 16).map fun j => if j < k then .int .u32 (tsteps 4 j) else .int .u32 0
def tabA (k : Nat) : Array Value := (tabL k).toArray
theorem tabA_at (k : Nat) (h : k < 16) : (tabA k)[k]? = some (.int .u32 0) := by
  simp [tabA, tabL, h]
theorem tabA_set (k : Nat) (h : k < 16) (x : Int) (hx : x = tsteps 4 k) : (tabA k).setIfInBounds k (.int .u32 x) = tabA (k + 1) := by
  subst hx
  refine Array.ext_getElem? fun i => ?_
  simp only [tabA, tabL, Array.getElem?_setIfInBounds, List.getElem?_toArray, List.getElem?_map]
  by_cases e : k = i
  · subst e
    simp [h]
  · by_cases hi : i < 16
    · have : (i < k + 1) = (i < k) := by simp only [eq_iff_iff]; omega
      simp [e, hi, this]
    · simp [e, hi]
def tabV : Array Value := #[.int .u32 0, .int .u32 274646895, .int .u32 549293790, .int .u32 820201905, .int .u32 1098587580, .int .u32 1361435347, .int .u32 1640403810, .int .u32 1905808397, .int .u32 2197175160, .int .u32 2460548119, .int .u32 2722870694, .int .u32 2987750089, .int .u32 3280807620, .int .u32 3553878443, .int .u32 3811616794, .int .u32 4084100981]
theorem tabA_all : tabA 16 = #[.int .u32 0, .int .u32 274646895, .int .u32 549293790, .int .u32 820201905, .int .u32 1098587580, .int .u32 1361435347, .int .u32 1640403810, .int .u32 1905808397, .int .u32 2197175160, .int .u32 2460548119, .int .u32 2722870694, .int .u32 2987750089, .int .u32 3280807620, .int .u32 3553878443, .int .u32 3811616794, .int .u32 4084100981] := by kernel_rfl
set_option maxHeartbeats 400000 in
theorem crc_table_calls (w : World) : Calls Try.prog 16 #[] w fun e w' => e = .returned (.agg #[.int .u32 0, .int .u32 274646895, .int .u32 549293790, .int .u32 820201905, .int .u32 1098587580, .int .u32 1361435347, .int .u32 1640403810, .int .u32 1905808397, .int .u32 2197175160, .int .u32 2460548119, .int .u32 2722870694, .int .u32 2987750089, .int .u32 3280807620, .int .u32 3553878443, .int .u32 3811616794, .int .u32 4084100981]) ∧ w' = w.alloc (.cells #[.int .u32 0, .int .u32 274646895, .int .u32 549293790, .int .u32 820201905, .int .u32 1098587580, .int .u32 1361435347, .int .u32 1640403810, .int .u32 1905808397, .int .u32 2197175160, .int .u32 2460548119, .int .u32 2722870694, .int .u32 2987750089, .int .u32 3280807620, .int .u32 3553878443, .int .u32 3811616794, .int .u32 4084100981] 38) := by
  go_enter Try.func16, Try.ntmps16
  go_wp2
  go_loopw [3] (fun v3 wr => ∃ k : Nat, k ≤ 16 ∧ v3 = .int .i64 k ∧ wr = w.alloc (.cells (tabA k) 38)) (fun v3 _ => 16 - (intOf v3).toNat)
  case atStart => exact ⟨0, by omega, rfl, rfl⟩
  case round =>
    obtain ⟨k, hk, rfl, rfl⟩ := hrel
    by_cases hlt : k < 16
    · have htab := tabA_at k hlt
      go_wp2
      go_loop [8, 2] (fun v8 v2 => ∃ m : Nat, m ≤ 4 ∧ v8 = .int .i64 m ∧ v2 = .int .u32 (tsteps m k)) (fun v8 _ => 4 - (intOf v8).toNat)
      case atStart => exact ⟨0, by omega, rfl, rfl⟩
      case round =>
        obtain ⟨m, hm, rfl, rfl⟩ := hrel
        obtain ⟨hb1, hb2⟩ := tsteps_bd m k (by omega) (by omega)
        by_cases hlt2 : m < 4
        · go_wp2
          go_round
          case rel => exact ⟨m + 1, by omega, by go_num, rfl⟩
          case measure => simp [intOf]; omega
        · go_wp2
          exact ⟨⟨k + 1, by omega, by go_num, by rw [tabA_set k hlt _ (by rw [show m = 4 by omega])]⟩, by simp [intOf]; omega⟩
    · obtain rfl : k = 16 := by omega
      simp only [tabA_all]
      go_wp2
      exact bodyPost_ret (v := .agg tabV) (by simp [results, Try.results16, go_sem, tabV]) rfl ⟨rfl, rfl⟩

end Go.Proofs.Ytgoipblpoopemaa.Hp
