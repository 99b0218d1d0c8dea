/- Contracts of functions of the given program, and what they lean on: written by this session's own program hprint.py, which lays hand texts into the kit's printer. -/
import Derived.Test.YtdfkecfmmcdgiaaHp0
import Derived.Test.YtdfkecfmmcdgiaaHpatakew
import Derived.Test.YtdfkecfmmcdgiaaHpf24
import Derived.Test.YtdfkecfmmcdgiaaHpapack10
namespace Go.Proofs.Ytdfkecfmmcdgiaa.Hp
open Go.RowKit Go.Proofs.YtdfkecfmmcdgiaaW.PrintWords Go.Proofs.YtdfkecfmmcdgiaaW.PrintLast Go.Proofs.YtdfkecfmmcdgiaaW.PrintMore
attribute [local go_sem] max2_int min2_int max_two min_two max_three min_three max_four min_four   -- for this text's walks alone
set_option linter.unusedVariables false
set_option linter.unusedSimpArgs false

-- AUX rtakew
theorem str_inj {a b : List Int} (ha : ∀ x ∈ a, 0 ≤ x ∧ x < 256) (hb : ∀ x ∈ b, 0 ≤ x ∧ x < 256) (h : strOfNums a = strOfNums b) : a = b := by
  have h1 : (a.map fun n => UInt8.ofNat n.toNat) = (b.map fun n => UInt8.ofNat n.toNat) := by rw [← strOfNums_data, ← strOfNums_data, h]
  have key : ∀ l : List Int, (∀ x ∈ l, 0 ≤ x ∧ x < 256) → (l.map fun n => UInt8.ofNat n.toNat).map (fun u => (u.toNat : Int)) = l := by
    intro l hl
    induction l with
    | nil => rfl
    | cons x l ih =>
      have hx := hl x (List.mem_cons_self ..)
      simp only [List.map_cons]
      rw [ih (fun y hy => hl y (List.mem_cons_of_mem _ hy))]
      congr 1
      rw [UInt8.toNat_ofNat']
      omega
  rw [← key a ha, ← key b hb, h1]
theorem rgood_go (m : List Int) (hm : m.length ≤ 2000) : ∀ (r i k : Nat), i + r = m.length → r < k → laminaref10_Good.l0 k m i = some (decide (∀ x ∈ m.drop i, x ≤ 3)) := by
  intro r
  induction r with
  | zero =>
    intro i k hi hk
    obtain ⟨k, rfl⟩ : ∃ k', k = k' + 1 := ⟨k - 1, by omega⟩
    rw [laminaref10_Good.l0, if_neg (by omega), List.drop_eq_nil_of_le (by omega)]
    simp
  | succ r ih =>
    intro i k hi hk
    obtain ⟨k, rfl⟩ : ∃ k', k = k' + 1 := ⟨k - 1, by omega⟩
    have e : wrap64 ((i : Int) + 1) = ((i + 1 : Nat) : Int) := by unfold wrap64; omega
    have hr : rd m i = m[i] := by simp [rd, show i < m.length by omega]
    rw [laminaref10_Good.l0, if_pos (by omega), if_pos (by omega), e, ih (i + 1) k (by omega) (by omega), List.drop_eq_getElem_cons (show i < m.length by omega), hr]
    by_cases h : m[i] > 3
    · rw [if_pos h]
      have : ¬ ∀ x ∈ m[i] :: m.drop (i + 1), x ≤ 3 := fun g => by have := g m[i] (List.mem_cons_self ..); omega
      rw [decide_eq_false this]
    · rw [if_neg h]
      congr 1
      rw [decide_eq_decide]
      constructor
      · intro g x hx
        rcases List.mem_cons.1 hx with rfl | hx
        · omega
        · exact g x hx
      · exact fun g x hx => g x (List.mem_cons_of_mem _ hx)
theorem rgood_f (m : List Int) (k : Nat) (hk : 300 < k) : laminaref10_Good.f k m = some (decide (m.length ≤ 256 ∧ ∀ x ∈ m, x ≤ 3)) := by
  unfold laminaref10_Good.f
  by_cases h : (m.length : Int) > 256
  · rw [if_pos h, decide_eq_false (fun g => by have := g.1; omega)]
  · rw [if_neg h]
    have := rgood_go m (by omega) m.length 0 k (by omega) (by omega)
    simp only [Int.natCast_zero, List.drop_zero] at this
    rw [this]
    congr 1
    rw [decide_eq_decide]
    exact ⟨fun g => ⟨by omega, g⟩, fun g => g.2⟩
theorem pack_bytes (m : List Int) (hm : IsMarks m) : ∀ x ∈ packL m, 0 ≤ x ∧ x < 256 := by
  intro x hx
  have hn := hm.1
  rcases List.mem_cons.1 hx with rfl | hx
  · omega
  rcases List.mem_cons.1 hx with rfl | hx
  · omega
  obtain ⟨q, _, rfl⟩ := List.mem_map.1 hx
  have b0 := mk_rd hm (4 * q)
  have b1 := mk_rd hm (4 * q + 1)
  have b2 := mk_rd hm (4 * q + 2)
  have b3 := mk_rd hm (4 * q + 3)
  unfold quad
  omega
theorem pack_len (m : List Int) : (packL m).length = 2 + (m.length + 3) / 4 := by simp [packL]; omega
def tkP (l : List Int) (k : Nat) : List Int := (List.range k).map (tkV l)
theorem tkP_len (l : List Int) (k : Nat) : (tkP l k).length = k := by simp [tkP]
theorem tkP_marks (l : List Int) (k : Nat) : ∀ x ∈ tkP l k, 0 ≤ x ∧ x ≤ 3 := by
  intro x hx
  obtain ⟨j, _, rfl⟩ := List.mem_map.1 hx
  unfold tkV
  omega

end Go.Proofs.Ytdfkecfmmcdgiaa.Hp
