/- Contracts of functions of the given program, and what they lean on: written by this session's own program hprint.py, which lays hand texts into the kit's printer. -/
import Derived.Test.YtgoipblpoopemaaHp0
import Derived.Test.YtgoipblpoopemaaHpacrcm
namespace Go.Proofs.Ytgoipblpoopemaa.Hp
open Go.RowKit Go.Proofs.YtgoipblpoopemaaW.PrintWords Go.Proofs.YtgoipblpoopemaaW.PrintLast Go.Proofs.YtgoipblpoopemaaW.PrintMore
attribute [local go_sem] max2_int min2_int max_two min_two max_three min_three max_four min_four   -- for this text's walks alone
set_option linter.unusedVariables false
set_option linter.unusedSimpArgs false

-- AUX joinm
/-! The matrices of crc.Join: what becomes of each bit, led over k bits. -/
def bitB (i : Nat) : BitVec 32 := 1#32 <<< i
def Mat (k : Nat) : Array Value := ((List.range 32).map fun i => Value.int .u32 ((stepsB k (bitB i)).toNat : Int)).toArray
theorem Mat_at (k i : Nat) (h : i < 32) : (Mat k)[i]? = some (.int .u32 ((stepsB k (bitB i)).toNat : Int)) := by
  simp [Mat, h]
theorem Mat_size (k : Nat) : (Mat k).size = 32 := by simp [Mat]
/-- What the loop has gathered behind i bits of b. -/
def ofB (k : Nat) (b : BitVec 32) : Nat → BitVec 32
  | 0 => 0#32
  | i + 1 => ofB k b i ^^^ (if b.getLsbD i then stepsB k (bitB i) else 0#32)
def lowB (b : BitVec 32) : Nat → BitVec 32
  | 0 => 0#32
  | i + 1 => lowB b i ^^^ (if b.getLsbD i then bitB i else 0#32)
theorem stepsB_zero (k : Nat) : stepsB k 0#32 = 0#32 := by
  induction k with
  | zero => rfl
  | succ k ih => show stepB (stepsB k 0#32) = _; rw [ih]; exact stepB_zero
theorem ofB_low (k : Nat) (b : BitVec 32) (i : Nat) : ofB k b i = stepsB k (lowB b i) := by
  induction i with
  | zero => exact (stepsB_zero k).symm
  | succ i ih =>
    show ofB k b i ^^^ _ = stepsB k (lowB b i ^^^ _)
    rw [stepsB_xor, ih]
    cases b.getLsbD i
    · simp [stepsB_zero]
    · simp
theorem lowB_bit (b : BitVec 32) (i j : Nat) (hi : i ≤ 32) : (lowB b i).getLsbD j = (decide (j < i) && b.getLsbD j) := by
  induction i with
  | zero => simp [lowB]
  | succ i ih =>
    show (lowB b i ^^^ _).getLsbD j = _
    rw [BitVec.getLsbD_xor, ih (by omega)]
    have hb : (bitB i).getLsbD j = decide (j = i) := by
      unfold bitB
      rw [BitVec.getLsbD_shiftLeft]
      by_cases h : j = i
      · subst h
        have : decide (j < 32) = true := decide_eq_true (by omega)
        simp [this]
      · by_cases h2 : j < i
        · have : decide (j < i) = true := decide_eq_true h2
          simp [this, h]
        · have e : (1#32).getLsbD (j - i) = false := by
            have : j - i ≠ 0 := by omega
            simp [BitVec.getLsbD_one, this]
          rw [e]
          simp [h]
    by_cases h : j = i
    · subst h
      have a1 : decide (j < j) = false := decide_eq_false (by omega)
      have a2 : decide (j < j + 1) = true := decide_eq_true (by omega)
      rw [a1, a2]
      cases hj : b.getLsbD j
      · simp
      · simp [hb]
    · have a : decide (j < i + 1) = decide (j < i) := by rw [decide_eq_decide]; omega
      rw [a]
      have e : (if b.getLsbD i = true then bitB i else 0#32).getLsbD j = false := by
        split
        · rw [hb]; exact decide_eq_false h
        · simp
      rw [e]; simp
theorem lowB_all (b : BitVec 32) (i : Nat) (hi : i ≤ 32) (h : (b >>> i).toNat = 0) : lowB b i = b := by
  apply BitVec.eq_of_getLsbD_eq
  intro j _
  rw [lowB_bit b i j hi]
  by_cases hj : j < i
  · simp [hj]
  · have hz : b >>> i = 0#32 := BitVec.eq_of_toNat_eq h
    have := congrArg (fun z : BitVec 32 => z.getLsbD (j - i)) hz
    simp only [BitVec.getLsbD_ushiftRight] at this
    rw [show i + (j - i) = j by omega] at this
    rw [this]; simp
theorem of_step (o s y : BitVec 32) : bits .xor .u32 (o.toNat : Int) ((s.toNat : Int) * bits .and .u32 (y.toNat : Int) 1 % 4294967296) = ((o ^^^ (if y.getLsbD 0 then s else 0#32)).toNat : Int) := by
  have e1 : bits .and .u32 (y.toNat : Int) 1 = ((y.toNat % 2 : Nat) : Int) := by
    rw [show (1 : Int) = ((1 : Nat) : Int) from rfl, u32_and_nat _ _ y.isLt (by decide), nat_mask1]
  have g : y.getLsbD 0 = decide (y.toNat % 2 = 1) := by rw [BitVec.getLsbD, Nat.testBit_zero]
  have hs := s.isLt
  rw [e1, g]
  by_cases h : y.toNat % 2 = 1
  · rw [h]
    have : ((s.toNat : Int) * ((1 : Nat) : Int)) % (4294967296 : Int) = (s.toNat : Int) := by omega
    rw [this, xor_b]; simp
  · have : y.toNat % 2 = 0 := by omega
    rw [this]
    have : ((s.toNat : Int) * ((0 : Nat) : Int)) % (4294967296 : Int) = (((0#32).toNat : Nat) : Int) := by simp
    rw [this, xor_b]; simp
theorem shr_b (b : BitVec 32) (i : Nat) : ((b >>> i).toNat : Int) / (2 : Int) = ((b >>> (i + 1)).toNat : Int) := by
  rw [BitVec.toNat_ushiftRight, BitVec.toNat_ushiftRight, Nat.shiftRight_eq_div_pow, Nat.shiftRight_eq_div_pow, Nat.pow_succ, ← Nat.div_div_eq_div_mul]
  omega
theorem stepsB_bit (i : Nat) (h : i + 1 < 32) : stepsB 1 (bitB (i + 1)) = bitB i := by
  show stepB (bitB (i + 1)) = bitB i
  rw [stepB_even _ (by unfold bitB; simp)]
  unfold bitB
  apply BitVec.eq_of_toNat_eq
  rw [BitVec.toNat_ushiftRight, BitVec.toNat_shiftLeft, BitVec.toNat_shiftLeft, Nat.shiftRight_eq_div_pow, Nat.shiftLeft_eq, Nat.shiftLeft_eq]
  have p : 2 ^ (i + 1) < 2 ^ 32 := Nat.pow_lt_pow_right (by decide) h
  have q : 2 ^ i < 2 ^ 32 := Nat.pow_lt_pow_right (by decide) (by omega)
  simp only [BitVec.toNat_ofNat]
  rw [show 1 % 2 ^ 32 = 1 by decide, Nat.one_mul, Nat.one_mul, Nat.mod_eq_of_lt p, Nat.mod_eq_of_lt q, Nat.pow_succ]
  omega

end Go.Proofs.Ytgoipblpoopemaa.Hp
