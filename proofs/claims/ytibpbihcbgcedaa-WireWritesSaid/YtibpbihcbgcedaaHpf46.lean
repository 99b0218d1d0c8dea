/- Contracts of functions of the given program, and what they lean on: written by this session's own program hprint.py, which lays hand texts into the kit's printer. -/
import Derived.Test.YtibpbihcbgcedaaHp0
import Derived.Test.YtibpbihcbgcedaaHpaM
import Derived.Test.YtibpbihcbgcedaaHpf15
namespace Go.Proofs.Ytibpbihcbgcedaa.Hp
open Go.RowKit Go.Proofs.YtibpbihcbgcedaaW.PrintWords Go.Proofs.YtibpbihcbgcedaaW.PrintLast Go.Proofs.YtibpbihcbgcedaaW.PrintMore
attribute [local go_sem] max2_int min2_int max_two min_two max_three min_three max_four min_four   -- for this text's walks alone
set_option linter.unusedVariables false
set_option linter.unusedSimpArgs false

/-! ### wire_Reader_fail: function 46 -/
theorem wire_Reader_fail.calls (S : Nat → Prop) (p : Nat) (A : Option Addr) (c : Nat) (l : List Int) (bad : Bool) (w : World) (hr : Cur 63 w S p A c l bad) :
    Calls Try.prog 46 #[.pointer (some ⟨p, 0, none⟩)] w fun e w' => e = .returned (.tuple #[]) ∧ RdTo w w' S (.pointer (some ⟨p, 0, none⟩)) [] true := by
  have hb := hr.str
  have h0 : w.cell? ⟨p, 0, none⟩ = some (.slice A l.length c) := by rw [cell_of hb]; rfl
  have h1 : w.cell? ⟨p, 1, none⟩ = some (.bool bad) := by rw [cell_of hb]; rfl
  have f0 := frozen_of hb 0
  have f1 := frozen_of hb 1
  have HB := Aside0.mk hb
  have hne := hr.ne
  clear hr hb
  go_enter Try.func46, Try.ntmps46
  go_wp2
  go_end0
  have e1 := setCell_here HB.out 0 (.slice none 0 0)
  have e2 := setCell_here e1 1 (.bool true)
  refine ⟨rfl, .inr ⟨p, none, 0, rfl, ⟨e2, by simp, ⟨Kd.C_nil _ _, fun h => absurd h (by simp)⟩, hne, fun _ => rfl, by simp⟩, fun h => absurd h (by simp)⟩, ?_⟩
  exact ((Only.refl w _).setCell (p := ⟨p, 0, none⟩) (.inl (show Pt _ p from rfl)) _).setCell (p := ⟨p, 1, none⟩) (.inl (show Pt _ p from rfl)) _

-- AUX tookw
/-- What a taking leaves: the row taken (b, at A), the rest, which stays where b is written over. -/
structure TookTo (w w' : World) (S : Nat → Prop) (h : Value) (A : Option Addr) (b r : List Int) : Prop where
  row : Rb w' S A b
  nf : Nf w' A b
  rdto : RdTo w w' S h r false
  stab : ∀ W', Seg w' W' A b.length → Rd W' S h r false
theorem add_add (a : Addr) (hs : a.spot = none) (i j : Nat) : (a.add i).add j = a.add (i + j) := by
  obtain ⟨b, o, s⟩ := a
  simp only at hs
  subst hs
  rw [show (⟨b, o, none⟩ : Addr).add i = ⟨b, o + i, none⟩ by unfold Addr.add; split <;> simp_all]
  rw [show (⟨b, o + i, none⟩ : Addr).add j = ⟨b, o + i + j, none⟩ by unfold Addr.add; split <;> simp_all]
  rw [show (⟨b, o, none⟩ : Addr).add (i + j) = ⟨b, o + (i + j), none⟩ by unfold Addr.add; split <;> simp_all]
  rw [Nat.add_assoc]
theorem add_inj (a : Addr) (hs : a.spot = none) (i j : Nat) (h : a.add i = a.add j) : i = j := by
  obtain ⟨b, o, s⟩ := a
  simp only at hs
  subst hs
  rw [show (⟨b, o, none⟩ : Addr).add i = ⟨b, o + i, none⟩ by unfold Addr.add; split <;> simp_all, show (⟨b, o, none⟩ : Addr).add j = ⟨b, o + j, none⟩ by unfold Addr.add; split <;> simp_all] at h
  injection h with _ h _
  omega
theorem add_spot (a : Addr) (hs : a.spot = none) (i : Nat) : (a.add i).spot = none := by
  obtain ⟨b, o, s⟩ := a
  simp only at hs
  subst hs
  rw [show (⟨b, o, none⟩ : Addr).add i = ⟨b, o + i, none⟩ by unfold Addr.add; split <;> simp_all]
theorem took_of {w : World} {S : Nat → Prop} {p : Nat} {A : Option Addr} {c m : Nat} {l : List Int} (x : Cur 63 w S p A c l false) (y : Nf w A l) (hm : m ≤ l.length) {A2 : Option Addr} (hA2 : A2 = if c = m then A else A.map (·.add m)) :
    TookTo w (w.setCell ⟨p, 0, none⟩ (.slice A2 (l.length - m) (c - m))) S (.pointer (some ⟨p, 0, none⟩)) A (l.take m) (l.drop m) := by
  have o : Only w (w.setCell ⟨p, 0, none⟩ (.slice A2 (l.length - m) (c - m))) (Pt (.pointer (some ⟨p, 0, none⟩))) := (Only.refl w _).setCell (p := ⟨p, 0, none⟩) (.inl (show Pt _ p from rfl)) _
  have hS : ∀ i, S i → ¬ Pt (.pointer (some ⟨p, 0, none⟩)) i := fun i hi he => by
    have : p = i := by simpa [Pt] using he
    subst this
    exact x.ne hi
  have e1 := setCell_here x.str 0 (.slice A2 (l.length - m) (c - m))
  generalize w.setCell ⟨p, 0, none⟩ (.slice A2 (l.length - m) (c - m)) = w1 at *
  have r1 := x.row.only o hS
  have n1 := y.only x.row o hS
  have hlt : (l.take m).length = m := by rw [List.length_take]; omega
  have hld : (l.drop m).length = l.length - m := List.length_drop
  have hlen := x.len
  have rT : Rb w1 S A (l.take m) := ⟨by have := Kd.C_take (m := m) r1.row hm; exact this, fun hp a ha => r1.blk (by omega) a ha⟩
  have rD : Rb w1 S A2 (l.drop m) := by
    subst hA2
    have := Kd.C_drop (m := m) r1.row hm x.len
    refine ⟨by simpa [Kd.int, Kd.scalar] using this, fun hp a ha => ?_⟩
    rw [if_neg (by omega)] at ha
    rcases A with _ | a0
    · cases ha
    · simp only [Option.map_some, Option.some.injEq] at ha
      subst ha
      rw [add_blk]
      exact r1.blk (by omega) a0 rfl
  have nD : Nf w1 A2 (l.drop m) := fun hp a ha => by
    subst hA2
    rw [if_neg (by omega)] at ha
    rcases A with _ | a0
    · cases ha
    · simp only [Option.map_some, Option.some.injEq] at ha
      subst ha
      obtain ⟨q1, q2⟩ := n1 (by omega) a0 rfl
      exact ⟨add_spot a0 q1 m, by rw [add_blk]; exact q2⟩
  have str1 : w1.heap[p]? = some (.cells #[.slice A2 (l.drop m).length (c - m), .bool false] 63 (0, 0)) := by rw [hld]; exact e1
  have byt1 : ∀ x ∈ l.drop m, 0 ≤ x ∧ x < 256 := fun z hz => x.byt z (List.mem_of_mem_drop hz)
  refine ⟨rT, fun hp a ha => n1 (by omega) a ha, ⟨.inr ⟨p, A2, c - m, rfl, ⟨str1, by omega, rD, x.ne, fun h => (by cases h), byt1⟩, nD⟩, o⟩, fun W' sg => ?_⟩
  have hpA : 0 < (l.take m).length → ∀ a, A = some a → p ≠ a.block := fun hp a ha e => x.ne (by rw [e]; exact rT.blk hp a ha)
  refine .inr ⟨p, A2, c - m, rfl, ⟨(sg.block p hpA).trans str1, by omega, ⟨C_cells_mono rD.row (fun ad j he hj => ?_), rD.blk⟩, x.ne, fun h => (by cases h), byt1⟩, fun hp a ha => ?_⟩
  · have hA := hA2
    rw [if_neg (by omega)] at hA
    rcases A with _ | a0
    · rw [he] at hA; cases hA
    · rw [he] at hA
      simp only [Option.map_some, Option.some.injEq] at hA
      subst hA
      obtain ⟨q1, q2⟩ := n1 (by omega) a0 rfl
      rw [add_add a0 q1]
      refine sg.cell a0 rfl _ (add_blk _ _) (fun i hi e => ?_)
      have := add_inj a0 q1 _ _ e
      omega
  · have hA := hA2
    rw [if_neg (by omega)] at hA
    rcases A with _ | a0
    · rw [ha] at hA; cases hA
    · rw [ha] at hA
      simp only [Option.map_some, Option.some.injEq] at hA
      obtain ⟨q1, cs, q2⟩ := nD hp a ha
      refine ⟨q1, ?_⟩
      subst hA
      rw [add_blk] at q2 ⊢
      exact sg.kind a0 rfl cs _ q2

-- AUX orw
theorem sumN_bd (b : List Int) (hb : ∀ x ∈ b, 0 ≤ x ∧ x < 256) (k : Nat) : 0 ≤ sumN b k ∧ sumN b k < 2 ^ (8 * k) := by
  induction k with
  | zero => simp [sumN]
  | succ k ih =>
    have hr : 0 ≤ rd b k ∧ rd b k < 256 := by
      unfold rd
      rw [Int.toNat_natCast, List.getD_eq_getElem?_getD]
      by_cases h : k < b.length
      · simp only [List.getElem?_eq_getElem h, Option.getD_some]
        exact hb _ (List.getElem_mem h)
      · simp [List.getElem?_eq_none (Nat.le_of_not_lt h)]
    have hp : (2 : Int) ^ (8 * (k + 1)) = 256 * 2 ^ (8 * k) := by
      rw [show 8 * (k + 1) = 8 + 8 * k by omega, Int.pow_add]; rfl
    have h0 : (0 : Int) < 2 ^ (8 * k) := Int.pow_pos (by decide)
    unfold sumN
    rw [hp]
    generalize (2 : Int) ^ (8 * k) = P at *
    generalize rd b k = c at *
    refine ⟨Int.add_nonneg ih.1 (Int.mul_nonneg hr.1 (by omega)), ?_⟩
    have : c * P ≤ 255 * P := Int.mul_le_mul_of_nonneg_right (by omega) (by omega)
    omega
/-- A byte is put above what is there. -/
theorem or_step (s c : Int) (k : Nat) (hk : k < 8) (h0 : 0 ≤ s) (h1 : s < 2 ^ (8 * k)) (c0 : 0 ≤ c) (c1 : c < 256) : bits .or .i64 s (IntKind.i64.wrap (c * 2 ^ (8 * k))) = IntKind.i64.wrap (s + c * 2 ^ (8 * k)) := by
  have hw : ∀ x : Int, BitVec.ofInt 64 (IntKind.i64.wrap x) = BitVec.ofInt 64 x := by
    intro x
    apply BitVec.eq_of_toInt_eq
    rw [BitVec.toInt_ofInt, BitVec.toInt_ofInt]
    simp only [IntKind.wrap, IntKind.bits, IntKind.signed, Int.bmod]
    simp
    split <;> split <;> split <;> omega
  show IntKind.i64.wrap (((BitVec.ofInt 64 s ||| BitVec.ofInt 64 (IntKind.i64.wrap (c * 2 ^ (8 * k)))).toNat : Nat) : Int) = _
  rw [hw]
  obtain ⟨S, rfl⟩ := Int.eq_ofNat_of_zero_le h0
  obtain ⟨C, rfl⟩ := Int.eq_ofNat_of_zero_le c0
  have hS : S < 2 ^ (8 * k) := by exact_mod_cast h1
  have hC : C < 256 := by omega
  have e1 : ((C : Int) * 2 ^ (8 * k)) = ((C * 2 ^ (8 * k) : Nat) : Int) := by push_cast; rfl
  have hp : 2 ^ (8 * k) * 256 ≤ 2 ^ 64 := by
    rw [show (256 : Nat) = 2 ^ 8 by rfl, ← Nat.pow_add]
    exact Nat.pow_le_pow_right (by decide) (by omega)
  have hCP : C * 2 ^ (8 * k) ≤ 255 * 2 ^ (8 * k) := Nat.mul_le_mul_right _ (by omega)
  rw [e1, BitVec.ofInt_natCast, BitVec.ofInt_natCast, BitVec.toNat_or, BitVec.toNat_ofNat, BitVec.toNat_ofNat, Nat.mod_eq_of_lt (by omega), Nat.mod_eq_of_lt (by omega), Nat.or_comm, nat_join (8 * k) _ _ (by simp) hS]
  congr 1
  push_cast
  omega
theorem wrap_i64 (n : Int) : IntKind.i64.wrap n = wrap64 n := by
  simp only [IntKind.wrap, IntKind.bits, IntKind.signed, wrap64]
  simp
  split <;> omega
def accN (b : List Int) (k : Nat) : Int := wrap64 (sumN b k)
theorem accN_zero (b : List Int) : accN b 0 = 0 := by simp [accN, sumN, wrap64]
theorem rd_bd {b : List Int} (hb : ∀ x ∈ b, 0 ≤ x ∧ x < 256) (k : Nat) (h : k < b.length) : 0 ≤ rd b k ∧ rd b k < 256 := by
  unfold rd
  rw [Int.toNat_natCast, List.getD_eq_getElem?_getD, List.getElem?_eq_getElem h, Option.getD_some]
  exact hb _ (List.getElem_mem h)
theorem accN_small (b : List Int) (hb : ∀ x ∈ b, 0 ≤ x ∧ x < 256) (k : Nat) (hk : k < 8) : accN b k = sumN b k := by
  have h := sumN_bd b hb k
  have hp : (2 : Int) ^ (8 * k) ≤ 2 ^ 56 := by
    have := Nat.pow_le_pow_right (n := 2) (by decide) (show 8 * k ≤ 56 by omega)
    exact_mod_cast this
  have : (2 : Int) ^ 56 = 72057594037927936 := by decide
  unfold accN wrap64
  omega
theorem accN_step (b : List Int) (hb : ∀ x ∈ b, 0 ≤ x ∧ x < 256) (k : Nat) (hk : k < 8) (hl : k < b.length) : bits .or .i64 (accN b k) (wrap64 (rd b k * 2 ^ (8 * k))) = accN b (k + 1) := by
  have h := sumN_bd b hb k
  have hr : 0 ≤ rd b k ∧ rd b k < 256 := by
    unfold rd
    rw [Int.toNat_natCast, List.getD_eq_getElem?_getD, List.getElem?_eq_getElem hl, Option.getD_some]
    exact hb _ (List.getElem_mem hl)
  rw [← wrap_i64, accN_small b hb k hk, or_step _ _ k hk h.1 h.2 hr.1 hr.2, wrap_i64]
  rfl

end Go.Proofs.Ytibpbihcbgcedaa.Hp
