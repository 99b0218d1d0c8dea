/- Contracts of functions of the given program, and what they lean on: written by this session's own program hprint.py, which lays hand texts into the kit's printer. -/
import Derived.Test.YtdfkecfmmcdgiaaHp0
namespace Go.Proofs.Ytdfkecfmmcdgiaa.Hp
open Go.RowKit Go.Proofs.YtdfkecfmmcdgiaaW.PrintWords Go.Proofs.YtdfkecfmmcdgiaaW.PrintLast Go.Proofs.YtdfkecfmmcdgiaaW.PrintMore
attribute [local go_sem] max2_int min2_int max_two min_two max_three min_three max_four min_four   -- for this text's walks alone
set_option linter.unusedVariables false
set_option linter.unusedSimpArgs false

-- AUX takew
/-- The count of marks that two bytes say. -/
def cntI (l : List Int) : Int := rd l 0 + 256 * rd l 1
theorem cnt_or (a b : Int) (h0 : 0 ≤ a) (h1 : a < 256) (h2 : 0 ≤ b) (h3 : b < 256) : bits .or .i64 a (b * 256) = a + 256 * b := by
  obtain ⟨x, rfl⟩ := Int.eq_ofNat_of_zero_le h0
  obtain ⟨y, rfl⟩ := Int.eq_ofNat_of_zero_le h2
  have hx : x < 2 ^ 63 := by omega
  have hy : y * 256 < 2 ^ 63 := by omega
  have h := (bits_nat .i64 63 (by decide) (fun n h4 h5 => IntWalk.i64_in n (by omega)) x (y * 256) hx hy).2
  rw [show (((y * 256 : Nat) : Int)) = (y : Int) * 256 by omega] at h
  rw [h, Nat.or_comm, show y * 256 = 2 ^ 8 * y by omega, ← Nat.two_pow_add_eq_or_of_lt (by omega : x < 2 ^ 8) y]
  omega
theorem and3 (x : Int) (h0 : 0 ≤ x) (h1 : x < 256) : bits .and .u8 x 3 = x % 4 := bits_mask .u8 8 (by decide) wraps_u8 2 (by decide) x h0 h1
/-- The marks that bytes say. -/
def tkV (l : List Int) (j : Nat) : Int := rd l (2 + j / 4 : Nat) / 2 ^ (j % 4 * 2) % 4
def tkL (l : List Int) : List Int := (List.range (cntI l).toNat).map (tkV l)
def tkO (l : List Int) (n : Nat) : Nat → List Int
  | 0 => List.replicate n 0
  | k + 1 => (tkO l n k).set k (tkV l k)
theorem tkO_len (l : List Int) (n k : Nat) : (tkO l n k).length = n := by
  induction k with
  | zero => simp [tkO]
  | succ k ih => simp [tkO, ih]
theorem tkO_get (l : List Int) (n k j : Nat) (hk : k ≤ n) (hj : j < k) : (tkO l n k)[j]? = some (tkV l j) := by
  induction k with
  | zero => omega
  | succ k ih =>
    unfold tkO
    rw [List.getElem?_set]
    by_cases e : k = j
    · subst e; rw [if_pos rfl, if_pos (by rw [tkO_len]; omega)]
    · rw [if_neg e, ih (by omega) (by omega)]
theorem tkO_all (l : List Int) : tkO l (cntI l).toNat (cntI l).toNat = tkL l := by
  apply List.ext_getElem?
  intro j
  by_cases hj : j < (cntI l).toNat
  · rw [tkO_get l _ _ j (Nat.le_refl _) hj]; simp [tkL, hj]
  · rw [List.getElem?_eq_none (by rw [tkO_len]; omega), List.getElem?_eq_none (by simp [tkL]; omega)]
theorem tk_marks (l : List Int) : ∀ x ∈ tkL l, 0 ≤ x ∧ x ≤ 3 := by
  intro x hx
  obtain ⟨j, _, rfl⟩ := List.mem_map.1 hx
  unfold tkV
  omega
theorem rd_bytes {l : List Int} (h : ∀ x ∈ l, 0 ≤ x ∧ x < 256) (i : Nat) : 0 ≤ rd l i ∧ rd l i < 256 := by
  unfold rd
  rw [Int.toNat_natCast]
  by_cases hi : i < l.length
  · have := h l[i] (List.getElem_mem hi)
    simpa [List.getD_eq_getElem?_getD, hi] using this
  · simp [List.getD_eq_getElem?_getD, List.getElem?_eq_none (show l.length ≤ i by omega)]

end Go.Proofs.Ytdfkecfmmcdgiaa.Hp
