/- Contracts of functions of the given program, and what they lean on: written by this session's own program hprint.py, which lays hand texts into the kit's printer. -/
import Derived.Test.YtdfkecfmmcdgiaaHp0
import Derived.Test.YtdfkecfmmcdgiaaHpf23
import Derived.Test.YtdfkecfmmcdgiaaHpf26
namespace Go.Proofs.Ytdfkecfmmcdgiaa.Hp
open Go.RowKit Go.Proofs.YtdfkecfmmcdgiaaW.PrintWords Go.Proofs.YtdfkecfmmcdgiaaW.PrintLast Go.Proofs.YtdfkecfmmcdgiaaW.PrintMore
attribute [local go_sem] max2_int min2_int max_two min_two max_three min_three max_four min_four   -- for this text's walks alone
set_option linter.unusedVariables false
set_option linter.unusedSimpArgs false

-- AUX pack10
def quad (m : List Int) (q : Nat) : Int := rd m (4 * q : Nat) + 4 * rd m (4 * q + 1 : Nat) + 16 * rd m (4 * q + 2 : Nat) + 64 * rd m (4 * q + 3 : Nat)
def packL (m : List Int) : List Int := (m.length : Int) % 256 :: (m.length : Int) / 256 :: (List.range ((m.length + 3) / 4)).map (quad m)
def IsMarks (m : List Int) : Prop := m.length ≤ 256 ∧ ∀ x ∈ m, 0 ≤ x ∧ x ≤ 3
theorem mk_rd {m : List Int} (h : IsMarks m) (i : Nat) : 0 ≤ rd m i ∧ rd m i ≤ 3 := by
  unfold rd
  rw [Int.toNat_natCast]
  by_cases hi : i < m.length
  · have := h.2 m[i] (List.getElem_mem hi)
    simpa [List.getD_eq_getElem?_getD, hi] using this
  · simp [List.getD_eq_getElem?_getD, List.getElem?_eq_none (show m.length ≤ i by omega)]
theorem rput_step (k : Nat) (m acc : List Int) (hm : IsMarks m) (i j : Nat) (v : Int) (hi : i ≤ 256) (hj : j ≤ 3) (h0 : 0 ≤ v) (h1 : v ≤ 100) :
    laminaref10_Put.l1 (k + 1) m acc i v j = laminaref10_Put.l1 k m acc i (4 * v + rd m (i + j : Nat)) ((j : Int) - 1) := by
  have hr := mk_rd hm (i + j)
  have e : wrap64 ((i : Int) + j) = ((i + j : Nat) : Int) := by unfold wrap64; omega
  have e2 : wrap64 ((j : Int) - 1) = (j : Int) - 1 := by unfold wrap64; omega
  have e3 : wrap64 (4 * v) = 4 * v := by unfold wrap64; omega
  have e4 : wrap64 (rd m (i + j : Nat)) = rd m (i + j : Nat) := by unfold wrap64; omega
  have e5 : wrap64 (4 * v + rd m (i + j : Nat)) = 4 * v + rd m (i + j : Nat) := by unfold wrap64; omega
  rw [laminaref10_Put.l1, if_pos (by omega), e, e2, e3, e4, e5]
  by_cases h : ((i + j : Nat) : Int) < m.length
  · rw [if_pos h, if_pos (by omega)]
  · rw [if_neg h]
    have : rd m ((i + j : Nat) : Int) = 0 := by
      unfold rd
      rw [Int.toNat_natCast]
      simp [List.getD_eq_getElem?_getD, List.getElem?_eq_none (show m.length ≤ i + j by omega)]
    rw [this, Int.add_zero]
theorem rput_end (k : Nat) (m acc : List Int) (i : Nat) (v : Int) (hl : acc.length < 1000) (hi : i ≤ 256) (h0 : 0 ≤ v) (h1 : v < 256) :
    laminaref10_Put.l1 (k + 1) m acc i v (-1) = laminaref10_Put.l0 k m (acc ++ [v]) ((i + 4 : Nat) : Int) := by
  have e : wrap64 ((i : Int) + 4) = ((i + 4 : Nat) : Int) := by unfold wrap64; omega
  have e2 : v % 256 = v := by omega
  rw [laminaref10_Put.l1, if_neg (by omega), if_pos (by omega), e, e2]
theorem rput_round (k : Nat) (m acc : List Int) (hm : IsMarks m) (q : Nat) (hl : acc.length < 1000) (hq : 4 * q < m.length) :
    laminaref10_Put.l0 (k + 6) m acc (4 * q : Nat) = laminaref10_Put.l0 k m (acc ++ [quad m q]) (4 * (q + 1) : Nat) := by
  have hn := hm.1
  have b0 := mk_rd hm (4 * q)
  have b1 := mk_rd hm (4 * q + 1)
  have b2 := mk_rd hm (4 * q + 2)
  have b3 := mk_rd hm (4 * q + 3)
  rw [laminaref10_Put.l0, if_pos (by omega)]
  have s3 := rput_step (k + 4) m acc hm (4 * q) 3 0 (by omega) (by omega) (by omega) (by omega)
  have s2 := rput_step (k + 3) m acc hm (4 * q) 2 (4 * 0 + rd m (4 * q + 3 : Nat)) (by omega) (by omega) (by omega) (by omega)
  have s1 := rput_step (k + 2) m acc hm (4 * q) 1 (4 * (4 * 0 + rd m (4 * q + 3 : Nat)) + rd m (4 * q + 2 : Nat)) (by omega) (by omega) (by omega) (by omega)
  have s0 := rput_step (k + 1) m acc hm (4 * q) 0 (4 * (4 * (4 * 0 + rd m (4 * q + 3 : Nat)) + rd m (4 * q + 2 : Nat)) + rd m (4 * q + 1 : Nat)) (by omega) (by omega) (by omega) (by omega)
  have e := rput_end k m acc (4 * q) (4 * (4 * (4 * (4 * 0 + rd m (4 * q + 3 : Nat)) + rd m (4 * q + 2 : Nat)) + rd m (4 * q + 1 : Nat)) + rd m (4 * q : Nat)) hl (by omega) (by omega) (by omega)
  have hs3 : ((3 : Nat) : Int) - 1 = ((2 : Nat) : Int) := by omega
  have hs2 : ((2 : Nat) : Int) - 1 = ((1 : Nat) : Int) := by omega
  have hs1 : ((1 : Nat) : Int) - 1 = ((0 : Nat) : Int) := by omega
  have hs0 : ((0 : Nat) : Int) - 1 = -1 := by omega
  rw [hs3] at s3
  rw [hs2] at s2
  rw [hs1] at s1
  rw [hs0, show 4 * q + 0 = 4 * q from rfl] at s0
  have t : (3 : Int) = ((3 : Nat) : Int) := rfl
  rw [t, s3, s2, s1, s0, e]
  congr 3
  · unfold quad; omega
theorem rput_go (m : List Int) (hm : IsMarks m) : ∀ (r q k : Nat), q + r = (m.length + 3) / 4 → 6 * r < k → laminaref10_Put.l0 k m ((m.length : Int) % 256 :: (m.length : Int) / 256 :: (List.range q).map (quad m)) (4 * q : Nat) = some (packL m) := by
  have hn := hm.1
  intro r
  induction r with
  | zero =>
    intro q k hq hk
    obtain ⟨k, rfl⟩ : ∃ k', k = k' + 1 := ⟨k - 1, by omega⟩
    rw [laminaref10_Put.l0, if_neg (by omega)]
    rw [show q = (m.length + 3) / 4 by omega]; rfl
  | succ r ih =>
    intro q k hq hk
    obtain ⟨k, rfl⟩ : ∃ k', k = k' + 6 := ⟨k - 6, by omega⟩
    have h := ih (q + 1) k (by omega) (by omega)
    rw [rput_round k m _ hm q (by simp; omega) (by omega)]
    rw [List.range_succ, List.map_append, List.map_singleton] at h
    exact h
theorem rput_f (m : List Int) (hm : IsMarks m) (k : Nat) (hk : 600 < k) : laminaref10_Put.f k m = some (packL m) := by
  have hn := hm.1
  unfold laminaref10_Put.f
  have e : wrap64 ((m.length : Int) / 256) % 256 = (m.length : Int) / 256 := by unfold wrap64; omega
  rw [e]
  exact rput_go m hm ((m.length + 3) / 4) 0 k (by omega) (by omega)
theorem or4 : ∀ p < 64, ∀ x < 4, bits .or .u8 ((p : Nat) : Int) (((x : Nat) : Int) * 64 % 256) = ((p + x * 64 : Nat) : Int) := by decide +kernel
theorem or3 : ∀ p < 16, ∀ x < 4, bits .or .u8 ((p : Nat) : Int) (((x : Nat) : Int) * 16 % 256) = ((p + x * 16 : Nat) : Int) := by decide +kernel
theorem or2 : ∀ p < 4, ∀ x < 4, bits .or .u8 ((p : Nat) : Int) (((x : Nat) : Int) * 4 % 256) = ((p + x * 4 : Nat) : Int) := by decide +kernel
theorem or1 : ∀ p < 1, ∀ x < 4, bits .or .u8 ((p : Nat) : Int) (((x : Nat) : Int) * 1 % 256) = ((p + x * 1 : Nat) : Int) := by decide +kernel
def part (m : List Int) (q : Nat) : Nat → Int
  | 0 => 0
  | j + 1 => part m q j + rd m (4 * q + j : Nat) * 4 ^ j
theorem part4 (m : List Int) (q : Nat) : part m q 4 = quad m q := by
  have z : rd m (4 * q + 0 : Nat) = rd m (4 * q : Nat) := rfl
  simp only [part, quad, z]
  omega
theorem or_part (m : List Int) (hm : IsMarks m) (q r : Nat) (hr : r < 4) : bits .or .u8 (part m q r) (rd m (4 * q + r : Nat) * 2 ^ (r * 2) % 256) = part m q (r + 1) := by
  have b0 := mk_rd hm (4 * q)
  have b1 := mk_rd hm (4 * q + 1)
  have b2 := mk_rd hm (4 * q + 2)
  have b3 := mk_rd hm (4 * q + 3)
  obtain ⟨x0, e0⟩ := Int.eq_ofNat_of_zero_le b0.1
  obtain ⟨x1, e1⟩ := Int.eq_ofNat_of_zero_le b1.1
  obtain ⟨x2, e2⟩ := Int.eq_ofNat_of_zero_le b2.1
  obtain ⟨x3, e3⟩ := Int.eq_ofNat_of_zero_le b3.1
  have z : rd m (4 * q + 0 : Nat) = (x0 : Int) := e0
  obtain rfl | rfl | rfl | rfl : r = 0 ∨ r = 1 ∨ r = 2 ∨ r = 3 := by omega
  · have h := or1 0 (by omega) x0 (by omega)
    simp only [part, z]
    simpa using h
  · have h := or2 x0 (by omega) x1 (by omega)
    simp only [part, z, e1]
    rw [show ((0 : Int) + (x0 : Int) * 4 ^ 0) = ((x0 : Nat) : Int) by omega, show (2 : Int) ^ (1 * 2) = 4 by decide, h]
    omega
  · have h := or3 (x0 + 4 * x1) (by omega) x2 (by omega)
    simp only [part, z, e1, e2]
    rw [show ((0 : Int) + (x0 : Int) * 4 ^ 0 + (x1 : Int) * 4 ^ 1) = ((x0 + 4 * x1 : Nat) : Int) by omega, show (2 : Int) ^ (2 * 2) = 16 by decide, h]
    omega
  · have h := or4 (x0 + 4 * x1 + 16 * x2) (by omega) x3 (by omega)
    simp only [part, z, e1, e2, e3]
    rw [show ((0 : Int) + (x0 : Int) * 4 ^ 0 + (x1 : Int) * 4 ^ 1 + (x2 : Int) * 4 ^ 2) = ((x0 + 4 * x1 + 16 * x2 : Nat) : Int) by omega, show (2 : Int) ^ (3 * 2) = 64 by decide, h]
    omega
theorem o_get (m : List Int) (hm : IsMarks m) : ∀ k : Nat, k ≤ m.length → (marks_Put.o m k)[0]? = some ((m.length : Int) % 256) ∧ (marks_Put.o m k)[1]? = some ((m.length : Int) / 256) ∧
    ∀ q < (m.length + 3) / 4, (marks_Put.o m k)[2 + q]? = some (part m q (min (k - 4 * q) 4)) := by
  intro k
  induction k with
  | zero =>
    intro _
    simp only [marks_Put.o, marks_Put.o0]
    refine ⟨?_, ?_, fun q hq => ?_⟩
    · rw [List.getElem?_set, if_neg (by omega), List.getElem?_set, if_pos rfl, if_pos (by rw [List.length_replicate]; omega)]
    · rw [List.getElem?_set, if_pos rfl, if_pos (by rw [List.length_set, List.length_replicate]; omega)]
    · rw [List.getElem?_set, if_neg (by omega), List.getElem?_set, if_neg (by omega), List.getElem?_replicate, if_pos (by omega)]
      simp [part]
  | succ k ih =>
    intro hk
    obtain ⟨h0, h1, h2⟩ := ih (by omega)
    have hl := marks_Put.o_len m k
    have hq := h2 (k / 4) (by omega)
    have hv : rdOf 0 (marks_Put.o m k) (2 + (k : Int) / 4) = part m (k / 4) (k % 4) := by
      unfold rdOf
      rw [show (2 + (k : Int) / 4).toNat = 2 + k / 4 by omega, List.getD_eq_getElem?_getD, hq, Option.getD_some]
      congr 1
      omega
    have hw := or_part m hm (k / 4) (k % 4) (by omega)
    rw [show 4 * (k / 4) + k % 4 = k by omega] at hw
    rw [marks_Put.o, hv, hw]
    refine ⟨?_, ?_, fun q hq2 => ?_⟩
    · rw [List.getElem?_set, if_neg (by omega), h0]
    · rw [List.getElem?_set, if_neg (by omega), h1]
    · rw [List.getElem?_set]
      by_cases e : k / 4 = q
      · subst e
        rw [if_pos rfl, if_pos (by omega)]
        congr 2
        omega
      · rw [if_neg (by omega), h2 q hq2]
        congr 2
        omega
theorem part_all (m : List Int) (q : Nat) (hq : q < (m.length + 3) / 4) : part m q (min (m.length - 4 * q) 4) = quad m q := by
  have z : ∀ i : Nat, m.length ≤ i → rd m i = 0 := by
    intro i hi
    unfold rd
    rw [Int.toNat_natCast]
    simp [List.getD_eq_getElem?_getD, List.getElem?_eq_none hi]
  rw [← part4]
  obtain h | h | h | h : m.length - 4 * q = 1 ∨ m.length - 4 * q = 2 ∨ m.length - 4 * q = 3 ∨ 4 ≤ m.length - 4 * q := by omega
  · rw [h]; simp only [part, z (4 * q + 1) (by omega), z (4 * q + 2) (by omega), z (4 * q + 3) (by omega)]; simp [part]
  · rw [h]; simp only [part, z (4 * q + 2) (by omega), z (4 * q + 3) (by omega)]; simp [part]
  · rw [h]; simp only [part, z (4 * q + 3) (by omega)]; simp [part]
  · rw [Nat.min_eq_right h]
theorem o_pack (m : List Int) (hm : IsMarks m) : marks_Put.o m m.length = packL m := by
  obtain ⟨h0, h1, h2⟩ := o_get m hm m.length (Nat.le_refl _)
  have hl := marks_Put.o_len m m.length
  apply List.ext_getElem?
  intro i
  rcases i with _ | _ | i
  · rw [h0]; rfl
  · rw [h1]; rfl
  · by_cases hi : i < (m.length + 3) / 4
    · have := h2 i hi
      rw [Nat.add_comm 2 i] at this
      rw [this, part_all m i hi]
      simp [packL, hi]
    · rw [List.getElem?_eq_none (by omega), List.getElem?_eq_none (by simp [packL]; omega)]
theorem put_f (m : List Int) (hm : IsMarks m) : marks_Put.f m = some (packL m, none) := by
  unfold marks_Put.f
  have ha : (m.any fun x => decide (x > 3)) = false := by
    rw [List.any_eq_false]
    intro x hx
    have := hm.2 x hx
    simp
    omega
  rw [if_pos ⟨hm.1, ha⟩, o_pack m hm]

end Go.Proofs.Ytdfkecfmmcdgiaa.Hp
