/- Contracts of functions of the given program, and what they lean on: written by this session's own program hprint.py, which lays hand texts into the kit's printer. -/
import Derived.Test.YtgoipblpoopemaaHp0
import Derived.Test.YtgoipblpoopemaaHpacrcm
import Derived.Test.YtgoipblpoopemaaHpf11
import Derived.Test.YtgoipblpoopemaaHpacrcn
import Derived.Test.YtgoipblpoopemaaHpf15
import Derived.Test.YtgoipblpoopemaaHpf10
namespace Go.Proofs.Ytgoipblpoopemaa.Hp
open Go.RowKit Go.Proofs.YtgoipblpoopemaaW.PrintWords Go.Proofs.YtgoipblpoopemaaW.PrintLast Go.Proofs.YtgoipblpoopemaaW.PrintMore
attribute [local go_sem] max2_int min2_int max_two min_two max_three min_three max_four min_four   -- for this text's walks alone
set_option linter.unusedVariables false
set_option linter.unusedSimpArgs false

-- AUX crcr
theorem over_ev (d : Nat) : ∀ (k : Nat) (b : BitVec 32) (n i : Int), n - i = d → 0 ≤ i → n ≤ 1000 → d < k → laminaref01_over.l0 k (b.toNat : Int) n i = some ((stepsB d b).toNat : Int) := by
  induction d with
  | zero =>
    intro k b n i hd hi hn hk
    obtain ⟨k, rfl⟩ : ∃ m, k = m + 1 := ⟨k - 1, by omega⟩
    simp only [laminaref01_over.l0]
    rw [if_neg (by omega)]
    rfl
  | succ d ih =>
    intro k b n i hd hi hn hk
    obtain ⟨k, rfl⟩ : ∃ m, k = m + 1 := ⟨k - 1, by omega⟩
    simp only [laminaref01_over.l0]
    have hw : wrap64 (i + 1) = i + 1 := by unfold wrap64; omega
    have hb : b.toNat < 4294967296 := b.isLt
    have e1 : Int.tmod (b.toNat : Int) 2 = ((b.toNat % 2 : Nat) : Int) := by rw [Int.tmod_eq_emod_of_nonneg (by omega)]; omega
    have e2 : (Int.tdiv (b.toNat : Int) 2) % (4294967296 : Int) = ((b >>> 1).toNat : Int) := by
      rw [Int.tdiv_eq_ediv_of_nonneg (by omega), BitVec.toNat_ushiftRight, Nat.shiftRight_eq_div_pow]
      omega
    have g : b.getLsbD 0 = decide (b.toNat % 2 = 1) := by rw [BitVec.getLsbD, Nat.testBit_zero]
    have es : stepsB (d + 1) b = stepsB d (stepB b) := stepsB_add d 1 b
    rw [if_pos (by omega), hw, e1, e2, es]
    by_cases h1 : b.toNat % 2 = 1
    · rw [if_pos (by omega)]
      have : stepB b = (b >>> 1) ^^^ polyB := by unfold stepB; rw [g, h1]; simp
      rw [show (2197175160 : Int) = ((polyB.toNat : Nat) : Int) from rfl, xor_b, this]
      exact ih k _ n (i + 1) (by omega) (by omega) hn (by omega)
    · rw [if_neg (by omega)]
      have : stepB b = (b >>> 1) := by unfold stepB; rw [g]; simp [h1]
      rw [this]
      exact ih k _ n (i + 1) (by omega) (by omega) hn (by omega)
theorem refsum_ev (l : List Int) (hb : IsBytes l) (hl : l.length ≤ 1000000) (d : Nat) : ∀ (k i : Nat) (x : BitVec 32), i + d = l.length → d + 9 < k →
    laminaref01_Sum.l0 k l (x.toNat : Int) i = some ((ones ^^^ regB x (bvs (l.drop i))).toNat : Int) := by
  induction d with
  | zero =>
    intro k i x hd hk
    obtain ⟨k, rfl⟩ : ∃ m, k = m + 1 := ⟨k - 1, by omega⟩
    simp only [laminaref01_Sum.l0]
    rw [if_neg (by omega), List.drop_of_length_le (by omega)]
    show some _ = some ((ones ^^^ x).toNat : Int)
    have hx : x.toNat < 4294967296 := x.isLt
    congr 1
    have : (ones ^^^ x).toNat = 4294967295 - x.toNat := by
      have : ones ^^^ x = ~~~x := by
        apply BitVec.eq_of_getLsbD_eq
        intro i hi
        have ho : ones.getLsbD i = true := by
          rw [show ones = BitVec.allOnes 32 by decide, BitVec.getLsbD_allOnes]
          simp [hi]
        rw [BitVec.getLsbD_xor, BitVec.getLsbD_not, ho]
        simp [hi]
      rw [this, BitVec.toNat_not]
    rw [this]; omega
  | succ d ih =>
    intro k i x hd hk
    obtain ⟨k, rfl⟩ : ∃ m, k = m + 1 := ⟨k - 1, by omega⟩
    simp only [laminaref01_Sum.l0]
    have hw : wrap64 ((i : Int) + 1) = ((i + 1 : Nat) : Int) := by unfold wrap64; omega
    have hi : i < l.length := by omega
    have hr : rd l i = l[i] := by simp [rd, hi]
    have hc := hb l[i] (List.getElem_mem hi)
    have e : Go.bits .xor .u32 (x.toNat : Int) (rd l i % 4294967296) = ((x ^^^ BitVec.ofInt 32 l[i]).toNat : Int) := by
      rw [hr, Int.emod_eq_of_lt hc.1 (by omega)]
      conv => lhs; rw [← bv_toNat l[i] hc.1 (by omega)]
      exact xor_b _ _
    rw [if_pos (by omega), if_pos (by omega), hw, e]
    have ho : laminaref01_over.f k ((x ^^^ BitVec.ofInt 32 l[i]).toNat : Int) 8 = some ((stepsB 8 (x ^^^ BitVec.ofInt 32 l[i])).toNat : Int) := over_ev 8 k _ 8 0 (by omega) (by omega) (by omega) (by omega)
    rw [ho]
    simp only [Option.bind_some]
    rw [ih k (i + 1) _ (by omega) (by omega), List.drop_eq_getElem_cons hi]
    rfl
theorem refsum (l : List Int) (hb : IsBytes l) (hl : l.length ≤ 1000000) : laminaref01_Sum.f (l.length + 20) l = some (sumI [l]) := by
  have := refsum_ev l hb hl l.length (l.length + 20) 0 ones (by omega) (by omega)
  rw [sum1_b l hb]
  exact this

end Go.Proofs.Ytgoipblpoopemaa.Hp
