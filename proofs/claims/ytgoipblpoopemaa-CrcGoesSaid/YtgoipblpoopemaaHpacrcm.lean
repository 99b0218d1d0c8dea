/- Contracts of functions of the given program, and what they lean on: written by this session's own program hprint.py, which lays hand texts into the kit's printer. -/
import Derived.Test.YtgoipblpoopemaaHp0
import Derived.Test.YtgoipblpoopemaaHpf16
import Derived.Test.YtgoipblpoopemaaHpf12
namespace Go.Proofs.Ytgoipblpoopemaa.Hp
open Go.RowKit Go.Proofs.YtgoipblpoopemaaW.PrintWords Go.Proofs.YtgoipblpoopemaaW.PrintLast Go.Proofs.YtgoipblpoopemaaW.PrintMore
attribute [local go_sem] max2_int min2_int max_two min_two max_three min_three max_four min_four   -- for this text's walks alone
set_option linter.unusedVariables false
set_option linter.unusedSimpArgs false

-- AUX crcm
/-! The register as 32 bits: what a step does is linear. -/
def polyB : BitVec 32 := 2197175160#32
def stepB (x : BitVec 32) : BitVec 32 := (x >>> 1) ^^^ (if x.getLsbD 0 then polyB else 0#32)
def stepsB : Nat → BitVec 32 → BitVec 32
  | 0, x => x
  | m + 1, x => stepB (stepsB m x)
theorem stepB_xor (a b : BitVec 32) : stepB (a ^^^ b) = stepB a ^^^ stepB b := by
  unfold stepB
  rw [BitVec.ushiftRight_xor_distrib, BitVec.getLsbD_xor]
  cases a.getLsbD 0 <;> cases b.getLsbD 0 <;> simp
  · rw [BitVec.xor_assoc]
  · rw [BitVec.xor_assoc, BitVec.xor_assoc]; congr 1; rw [BitVec.xor_comm]
  · rw [BitVec.xor_assoc, ← BitVec.xor_assoc polyB, BitVec.xor_comm polyB, BitVec.xor_assoc, BitVec.xor_self, BitVec.xor_zero]
theorem stepsB_xor (m : Nat) (a b : BitVec 32) : stepsB m (a ^^^ b) = stepsB m a ^^^ stepsB m b := by
  induction m with
  | zero => rfl
  | succ m ih => show stepB _ = _; rw [ih, stepB_xor]; rfl
theorem stepsB_add (m n : Nat) (x : BitVec 32) : stepsB (m + n) x = stepsB m (stepsB n x) := by
  induction m with
  | zero => rw [Nat.zero_add]; rfl
  | succ m ih => rw [Nat.succ_add]; show stepB _ = stepB _; rw [ih]
theorem stepB_zero : stepB 0#32 = 0#32 := by decide
theorem stepB_eq_zero (x : BitVec 32) (h : stepB x = 0#32) : x = 0#32 := by
  unfold stepB at h
  have h31 : (x >>> 1 ^^^ (if x.getLsbD 0 then polyB else 0#32)).getLsbD 31 = false := by rw [h]; rfl
  have hp : polyB.getLsbD 31 = true := by decide
  rw [BitVec.getLsbD_xor, BitVec.getLsbD_ushiftRight, BitVec.getLsbD_of_ge x (1 + 31) (by decide)] at h31
  cases h0 : x.getLsbD 0 with
  | true => rw [h0, if_pos rfl, hp] at h31; simp at h31
  | false =>
    rw [h0] at h
    simp only [Bool.false_eq_true, if_false, BitVec.xor_zero] at h
    apply BitVec.eq_of_getLsbD_eq
    intro i hi
    rcases i with _ | i
    · rw [h0]; rfl
    · have := congrArg (fun z : BitVec 32 => z.getLsbD i) h
      simp only [BitVec.getLsbD_ushiftRight] at this
      rw [Nat.add_comm 1 i] at this
      rw [this]; simp
theorem stepsB_eq_zero (m : Nat) (x : BitVec 32) (h : stepsB m x = 0#32) : x = 0#32 := by
  induction m with
  | zero => exact h
  | succ m ih => exact ih (stepB_eq_zero _ h)
theorem stepsB_inj (m : Nat) (a b : BitVec 32) (h : stepsB m a = stepsB m b) : a = b := by
  have : stepsB m (a ^^^ b) = 0#32 := by rw [stepsB_xor, h, BitVec.xor_self]
  have := stepsB_eq_zero m _ this
  exact BitVec.xor_eq_zero_iff.1 this
/-- Bits below which there are noughts are shifted out. -/
theorem stepB_even (x : BitVec 32) (h : x.getLsbD 0 = false) : stepB x = x >>> 1 := by
  unfold stepB; rw [h]; simp
theorem stepsB_shl (m : Nat) : ∀ (y : BitVec 32), m ≤ 32 → (∀ i, 32 - m ≤ i → y.getLsbD i = false) → stepsB m (y <<< m) = y := by
  induction m with
  | zero => intro y _ _; show y <<< 0 = y; simp
  | succ m ih =>
    intro y hm hy
    rw [show m + 1 = m + 1 from rfl, stepsB_add m 1]
    have e : stepsB 1 (y <<< (m + 1)) = y <<< m := by
      show stepB (y <<< (m + 1)) = _
      rw [stepB_even _ (by simp)]
      apply BitVec.eq_of_getLsbD_eq
      intro i hi
      rw [BitVec.getLsbD_ushiftRight, BitVec.getLsbD_shiftLeft, BitVec.getLsbD_shiftLeft]
      by_cases h1 : 1 + i < 32
      · have a1 : decide (1 + i < 32) = true := decide_eq_true h1
        have a2 : decide (i < 32) = true := decide_eq_true hi
        have a3 : decide (1 + i < m + 1) = decide (i < m) := by rw [decide_eq_decide]; omega
        rw [a1, a2, a3, show 1 + i - (m + 1) = i - m by omega]
      · have a1 : decide (1 + i < 32) = false := decide_eq_false h1
        rw [a1]
        have : y.getLsbD (i - m) = false := hy _ (by omega)
        rw [this]; simp
    rw [e]
    exact ih y (by omega) (fun i hi => by
      by_cases h : i = 32 - (m + 1)
      · exact hy i (by omega)
      · exact hy i (by omega))

/-! From whole numbers to bits. -/
theorem bv_toNat (x : Int) (h0 : 0 ≤ x) (h1 : x < 4294967296) : (((BitVec.ofInt 32 x).toNat : Nat) : Int) = x := by
  obtain ⟨n, rfl⟩ := Int.eq_ofNat_of_zero_le h0
  rw [ofInt_u32 n (by omega)]
theorem xor_b (a b : BitVec 32) : bits .xor .u32 (a.toNat : Int) (b.toNat : Int) = ((a ^^^ b).toNat : Int) := by
  rw [u32_xor_nat _ _ a.isLt b.isLt, BitVec.toNat_xor]
theorem tstep_b (a : BitVec 32) : tstep (a.toNat : Int) = ((stepB a).toNat : Int) := by
  unfold tstep stepB
  have e1 : bits .and .u32 (a.toNat : Int) 1 = ((a.toNat % 2 : Nat) : Int) := by
    rw [show (1 : Int) = ((1 : Nat) : Int) from rfl, u32_and_nat _ _ a.isLt (by decide), nat_mask1]
  have e2 : (a.toNat : Int) / (2 : Int) = ((a >>> 1).toNat : Int) := by
    rw [BitVec.toNat_ushiftRight, Nat.shiftRight_eq_div_pow]; omega
  have e3 : 2197175160 * bits .and .u32 (a.toNat : Int) 1 % 4294967296 = ((if a.getLsbD 0 then polyB else 0#32).toNat : Int) := by
    rw [e1]
    have : a.getLsbD 0 = decide (a.toNat % 2 = 1) := by
      rw [BitVec.getLsbD, Nat.testBit_zero]
    rw [this]
    by_cases h : a.toNat % 2 = 1
    · simp [h, polyB]
    · have : a.toNat % 2 = 0 := by omega
      simp [this]
  rw [e2, e3, xor_b]
theorem tsteps_b (m : Nat) (a : BitVec 32) : tsteps m (a.toNat : Int) = ((stepsB m a).toNat : Int) := by
  induction m with
  | zero => rfl
  | succ m ih => show tstep _ = _; rw [ih, tstep_b]; rfl
theorem crcTab_b : ∀ n : Fin 16, rd crcTab (n.val : Int) = ((stepsB 4 (BitVec.ofNat 32 n.val)).toNat : Int) := by decide
theorem low_high (a : BitVec 32) : a = (a &&& 15#32) ^^^ ((a >>> 4) <<< 4) := by
  apply BitVec.eq_of_getLsbD_eq
  intro i hi
  rw [BitVec.getLsbD_xor, BitVec.getLsbD_and, BitVec.getLsbD_shiftLeft, BitVec.getLsbD_ushiftRight]
  have a1 : decide (i < 32) = true := decide_eq_true hi
  rw [a1]
  by_cases h : i < 4
  · have : i = 0 ∨ i = 1 ∨ i = 2 ∨ i = 3 := by omega
    rcases this with rfl | rfl | rfl | rfl <;> simp
  · have a2 : decide (i < 4) = false := decide_eq_false h
    have a3 : (15#32).getLsbD i = false := by
      have : (15#32).toNat.testBit i = false := Nat.testBit_lt_two_pow (Nat.lt_of_lt_of_le (show (15#32).toNat < 2 ^ 4 by decide) (Nat.pow_le_pow_right (by decide) (by omega)))
      exact this
    rw [a2, a3, show 4 + (i - 4) = i by omega]
    simp
theorem nib_b (a : BitVec 32) : nib (a.toNat : Int) = ((stepsB 4 a).toNat : Int) := by
  unfold nib
  have e1 : bits .and .u32 (a.toNat : Int) 15 = ((a &&& 15#32).toNat : Int) := by
    rw [show (15 : Int) = (((15#32).toNat : Nat) : Int) from rfl, u32_and_nat _ _ a.isLt (15#32).isLt, BitVec.toNat_and]
  have hlt : (a &&& 15#32).toNat < 16 := by
    rw [BitVec.toNat_and]
    exact Nat.lt_of_le_of_lt Nat.and_le_right (by decide)
  have e2 : (a.toNat : Int) / (16 : Int) = ((a >>> 4).toNat : Int) := by
    rw [BitVec.toNat_ushiftRight, Nat.shiftRight_eq_div_pow]; omega
  have e3 := crcTab_b ⟨(a &&& 15#32).toNat, hlt⟩
  simp only [BitVec.ofNat_toNat, BitVec.setWidth_eq] at e3
  rw [e1, e2, e3, xor_b]
  congr 2
  conv => rhs; rw [low_high a]
  rw [stepsB_xor, BitVec.xor_comm]
  congr 1
  symm
  apply stepsB_shl 4 (a >>> 4) (by decide)
  intro i hi
  rw [BitVec.getLsbD_ushiftRight]
  exact BitVec.getLsbD_of_ge _ _ (by omega)
theorem nibs_b (a : BitVec 32) : nibs 2 (a.toNat : Int) = ((stepsB 8 a).toNat : Int) := by
  show nib (nib ((a.toNat : Nat) : Int)) = ((stepsB (4 + 4) a).toNat : Int)
  rw [nib_b, nib_b, ← stepsB_add]
/-- The register behind bytes. -/
def regB (x : BitVec 32) (l : List (BitVec 32)) : BitVec 32 := l.foldl (fun x c => stepsB 8 (x ^^^ c)) x
def bvs (l : List Int) : List (BitVec 32) := l.map (BitVec.ofInt 32)
def IsBytes (l : List Int) : Prop := ∀ x ∈ l, 0 ≤ x ∧ x < 256
theorem fold_b (l : List Int) : ∀ (x : BitVec 32), IsBytes l → l.foldl goStep (x.toNat : Int) = ((regB x (bvs l)).toNat : Int) := by
  induction l with
  | nil => exact fun x _ => rfl
  | cons c l ih =>
    intro x h
    have hc := h c (by simp)
    have e : goStep (x.toNat : Int) c = ((stepsB 8 (x ^^^ BitVec.ofInt 32 c)).toNat : Int) := by
      unfold goStep
      conv => lhs; rw [← bv_toNat c hc.1 (by omega)]
      rw [xor_b, nibs_b]
    show List.foldl goStep (goStep _ c) l = _
    rw [e, ih _ (fun y hy => h y (by simp [hy]))]
    rfl
def ones : BitVec 32 := 4294967295#32
theorem inv_b (x : BitVec 32) : inv32 (x.toNat : Int) = ((ones ^^^ x).toNat : Int) := by
  unfold inv32
  rw [show IntKind.u32.max = ((ones.toNat : Nat) : Int) from by decide, xor_b]
theorem goI_b (x : BitVec 32) (l : List Int) (h : IsBytes l) : goI (x.toNat : Int) l = ((ones ^^^ regB (ones ^^^ x) (bvs l)).toNat : Int) := by
  unfold goI
  rw [inv_b, fold_b _ _ h, inv_b]
theorem regB_append (x : BitVec 32) (l m : List (BitVec 32)) : regB x (l ++ m) = regB (regB x l) m := by simp [regB]
theorem regB_xor (l : List (BitVec 32)) : ∀ (m : List (BitVec 32)) (a b : BitVec 32), l.length = m.length → regB (a ^^^ b) (l.zipWith (· ^^^ ·) m) = regB a l ^^^ regB b m := by
  induction l with
  | nil => intro m a b h; cases m with | nil => rfl | cons _ _ => simp at h
  | cons c l ih =>
    intro m a b h
    cases m with
    | nil => simp at h
    | cons d m =>
      show regB (stepsB 8 (a ^^^ b ^^^ (c ^^^ d))) (l.zipWith (· ^^^ ·) m) = regB (stepsB 8 (a ^^^ c)) l ^^^ regB (stepsB 8 (b ^^^ d)) m
      rw [← ih m _ _ (by simpa using h), ← stepsB_xor]
      congr 2
      rw [BitVec.xor_assoc, ← BitVec.xor_assoc b, BitVec.xor_comm b c, BitVec.xor_assoc, ← BitVec.xor_assoc]
theorem regB_inj (l : List (BitVec 32)) : ∀ (a b : BitVec 32), regB a l = regB b l → a = b := by
  induction l with
  | nil => exact fun a b h => h
  | cons c l ih =>
    intro a b h
    have := stepsB_inj 8 _ _ (ih _ _ h)
    have e : a ^^^ c ^^^ c = b ^^^ c ^^^ c := by rw [this]
    rwa [BitVec.xor_assoc, BitVec.xor_self, BitVec.xor_zero, BitVec.xor_assoc, BitVec.xor_self, BitVec.xor_zero] at e
theorem xor_cancel (a b c : BitVec 32) (h : a ^^^ b = a ^^^ c) : b = c := by
  have e : a ^^^ (a ^^^ b) = a ^^^ (a ^^^ c) := by rw [h]
  rwa [← BitVec.xor_assoc, ← BitVec.xor_assoc, BitVec.xor_self, BitVec.zero_xor, BitVec.zero_xor] at e

end Go.Proofs.Ytgoipblpoopemaa.Hp
