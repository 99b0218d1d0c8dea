/- Contracts of functions of the given program, and what they lean on: written by this session's own program hprint.py, which lays hand texts into the kit's printer. -/
import Derived.Test.YtgoipblpoopemaaHp0
import Derived.Test.YtgoipblpoopemaaHpf12
import Derived.Test.YtgoipblpoopemaaHpacrcm
import Derived.Test.YtgoipblpoopemaaHpf11
namespace Go.Proofs.Ytgoipblpoopemaa.Hp
open Go.RowKit Go.Proofs.YtgoipblpoopemaaW.PrintWords Go.Proofs.YtgoipblpoopemaaW.PrintLast Go.Proofs.YtgoipblpoopemaaW.PrintMore
attribute [local go_sem] max2_int min2_int max_two min_two max_three min_three max_four min_four   -- for this text's walks alone
set_option linter.unusedVariables false
set_option linter.unusedSimpArgs false

-- AUX crcn
theorem u8_xor_bd (x y : Int) (h : 0 ≤ x) (h1 : x < 256) (k : 0 ≤ y) (k1 : y < 256) : 0 ≤ bits .xor .u8 x y ∧ bits .xor .u8 x y < 256 := by
  rw [u8_xor _ _ h h1 k k1]
  have c := Nat.xor_lt_two_pow (n := 8) (x := x.toNat) (y := y.toNat) (by omega) (by omega)
  omega
theorem u8_xor_bv (x y : Int) (h : 0 ≤ x) (h1 : x < 256) (k : 0 ≤ y) (k1 : y < 256) : BitVec.ofInt 32 (bits .xor .u8 x y) = BitVec.ofInt 32 x ^^^ BitVec.ofInt 32 y := by
  obtain ⟨a, rfl⟩ := Int.eq_ofNat_of_zero_le h
  obtain ⟨b, rfl⟩ := Int.eq_ofNat_of_zero_le k
  rw [u8_xor_nat a b (by omega) (by omega)]
  apply BitVec.eq_of_toNat_eq
  rw [BitVec.toNat_xor, ofInt_u32 a (by omega), ofInt_u32 b (by omega), ofInt_u32 _ (Nat.lt_of_lt_of_le (Nat.xor_lt_two_pow (n := 8) (by omega) (by omega)) (by decide))]
/-- Four bytes by four bytes of a number, from noughts on: the register is the number, led over 32 bits. -/
theorem four_b (b : Int) (h : 0 ≤ b) (h1 : b < 4294967296) :
    regB 0#32 [BitVec.ofInt 32 (b / 2 ^ (8 * 0) % 256), BitVec.ofInt 32 (b / 2 ^ (8 * 1) % 256), BitVec.ofInt 32 (b / 2 ^ (8 * 2) % 256), BitVec.ofInt 32 (b / 2 ^ (8 * 3) % 256)] = stepsB 32 (BitVec.ofInt 32 b) := by
  obtain ⟨n, rfl⟩ := Int.eq_ofNat_of_zero_le h
  have hn : n < 4294967296 := by omega
  -- the number's rest behind j bytes: its low byte and what is above it
  have part : ∀ m : Nat, m < 4294967296 → BitVec.ofNat 32 m = BitVec.ofNat 32 (m % 256) ^^^ (BitVec.ofNat 32 (m / 256) <<< 8) := by
    intro m hm
    apply BitVec.eq_of_toNat_eq
    rw [BitVec.toNat_xor, BitVec.toNat_shiftLeft, BitVec.toNat_ofNat, BitVec.toNat_ofNat, BitVec.toNat_ofNat, Nat.mod_eq_of_lt hm, Nat.mod_eq_of_lt (show m % 256 < 2 ^ 32 by omega), Nat.mod_eq_of_lt (show m / 256 < 2 ^ 32 by omega), Nat.shiftLeft_eq, Nat.mod_eq_of_lt (show m / 256 * 2 ^ 8 < 2 ^ 32 by omega)]
    have hd : m % 256 &&& m / 256 * 2 ^ 8 = 0 := by
      apply Nat.eq_of_testBit_eq
      intro i
      rw [Nat.testBit_and, Nat.zero_testBit, Nat.testBit_mul_two_pow]
      by_cases hi : 8 ≤ i
      · rw [Nat.testBit_lt_two_pow (Nat.lt_of_lt_of_le (show m % 256 < 2 ^ 8 by omega) (Nat.pow_le_pow_right (by decide) hi))]; rfl
      · have : decide (8 ≤ i) = false := decide_eq_false hi
        simp [this]
    have hj := nat_join 8 (m / 256 * 2 ^ 8) (m % 256) (by omega) (by omega)
    have hx : m % 256 ^^^ m / 256 * 2 ^ 8 = m % 256 ||| m / 256 * 2 ^ 8 := by
      apply Nat.eq_of_testBit_eq
      intro i
      have := congrArg (fun z => z.testBit i) hd
      simp only [Nat.testBit_and, Nat.zero_testBit] at this
      rw [Nat.testBit_xor, Nat.testBit_or]
      revert this
      generalize (m % 256).testBit i = A
      generalize (m / 256 * 2 ^ 8).testBit i = B
      cases A <;> cases B <;> simp
    rw [hx, Nat.or_comm, hj]
    omega
  have lead : ∀ m : Nat, m < 4294967296 → stepsB 8 (BitVec.ofNat 32 (m % 256)) = stepsB 8 (BitVec.ofNat 32 m) ^^^ BitVec.ofNat 32 (m / 256) := by
    intro m hm
    conv => rhs; rw [part m hm]
    rw [stepsB_xor, stepsB_shl 8 _ (by decide), BitVec.xor_assoc, BitVec.xor_self, BitVec.xor_zero]
    intro i hi
    show (BitVec.ofNat 32 (m / 256)).toNat.testBit i = false
    rw [BitVec.toNat_ofNat, Nat.mod_eq_of_lt (show m / 256 < 2 ^ 32 by omega)]
    exact Nat.testBit_lt_two_pow (Nat.lt_of_lt_of_le (show m / 256 < 2 ^ 24 by omega) (Nat.pow_le_pow_right (by decide) hi))
  have e : ∀ j : Nat, BitVec.ofInt 32 ((n : Int) / 2 ^ j % 256) = BitVec.ofNat 32 (n / 2 ^ j % 256) := by
    intro j
    rw [show (n : Int) / 2 ^ j % 256 = ((n / 2 ^ j % 256 : Nat) : Int) by simp]
    exact BitVec.ofInt_natCast ..
  -- one step: a register that is the number led on, but for its rest
  have step : ∀ (x y : BitVec 32) (m : Nat), m < 4294967296 → x = y ^^^ BitVec.ofNat 32 m → stepsB 8 (x ^^^ BitVec.ofNat 32 (m % 256)) = stepsB 8 y ^^^ BitVec.ofNat 32 (m / 256) := by
    intro x y m hm hx
    rw [stepsB_xor, lead m hm, hx, stepsB_xor, BitVec.xor_assoc, ← BitVec.xor_assoc (stepsB 8 (BitVec.ofNat 32 m)), BitVec.xor_self, BitVec.zero_xor]
  show stepsB 8 (stepsB 8 (stepsB 8 (stepsB 8 (0#32 ^^^ _) ^^^ _) ^^^ _) ^^^ _) = _
  rw [e, e, e, e, BitVec.ofInt_natCast]
  have s1 := step 0#32 (BitVec.ofNat 32 n) n hn (by rw [BitVec.xor_self])
  have s2 := step _ _ (n / 256) (by omega) s1
  have s3 := step _ _ (n / 256 / 256) (by omega) s2
  have s4 := step _ _ (n / 256 / 256 / 256) (by omega) s3
  rw [show n / 2 ^ (8 * 0) = n by simp, show n / 2 ^ (8 * 1) = n / 256 by simp, show n / 2 ^ (8 * 2) = n / 256 / 256 by rw [Nat.div_div_eq_div_mul], show n / 2 ^ (8 * 3) = n / 256 / 256 / 256 by rw [Nat.div_div_eq_div_mul, Nat.div_div_eq_div_mul]]
  rw [s4, show n / 256 / 256 / 256 / 256 = 0 by omega]
  rw [show BitVec.ofNat 32 0 = 0#32 from rfl, BitVec.xor_zero, ← stepsB_add, ← stepsB_add, ← stepsB_add]
theorem sum1_b (l : List Int) (h : IsBytes l) : sumI [l] = ((ones ^^^ regB ones (bvs l)).toNat : Int) := by
  show goI 0 l = _
  have := goI_b 0#32 l h
  rw [BitVec.xor_zero] at this
  exact this
theorem bv_inj (a b : BitVec 32) (h : ((a.toNat : Nat) : Int) = ((b.toNat : Nat) : Int)) : a = b := BitVec.eq_of_toNat_eq (by omega)

end Go.Proofs.Ytgoipblpoopemaa.Hp
