/- Proved here: the statement over numbers and lists alone to which the law MarksSince comes; its conditions stand in it. -/
import Derived.Test.YtdfkecfmmcdgiaaHpf8
import Derived.Test.YtdfkecfmmcdgiaaHpaC
import Derived.Test.YtdfkecfmmcdgiaaHpartakew
import Derived.Test.YtdfkecfmmcdgiaaHpaalive10
namespace Go.Proofs.Ytdfkecfmmcdgiaa.Pure
open Go.RowKit Go.Proofs.Ytdfkecfmmcdgiaa.Hp Go.Proofs.YtdfkecfmmcdgiaaW.PrintWords Go.Proofs.YtdfkecfmmcdgiaaW.PrintLast

set_option linter.unusedVariables false
set_option linter.unusedSimpArgs false
theorem ints_go (a b : List Int) (hl : a.length = b.length) (ha : a.length ≤ 1000000) : ∀ (m i k : Nat), i + m = a.length → m < k → laminanum_Ints.l0 k a b (a.length : Int) i = some (decide (a.drop i = b.drop i)) := by
  intro m
  induction m with
  | zero =>
    intro i k hi hk
    obtain ⟨k, rfl⟩ : ∃ k', k = k' + 1 := ⟨k - 1, by omega⟩
    rw [laminanum_Ints.l0, if_neg (by omega), List.drop_eq_nil_of_le (by omega), List.drop_eq_nil_of_le (by omega)]
    rfl
  | succ m ih =>
    intro i k hi hk
    obtain ⟨k, rfl⟩ : ∃ k', k = k' + 1 := ⟨k - 1, by omega⟩
    have e : wrap64 ((i : Int) + 1) = ((i + 1 : Nat) : Int) := by unfold wrap64; omega
    have r0 : rd a i = a[i] := by simp [rd, show i < a.length by omega]
    have r1 : rd b i = b[i] := by simp [rd, show i < b.length by omega]
    rw [laminanum_Ints.l0, if_pos (by omega), if_pos (by omega), if_pos (by omega), if_pos (by omega), e, ih (i + 1) k (by omega) (by omega), r0, r1]
    rw [List.drop_eq_getElem_cons (show i < a.length by omega), List.drop_eq_getElem_cons (show i < b.length by omega)]
    by_cases h : a[i] = b[i]
    · rw [if_pos h, h]; simp only [List.cons.injEq, true_and]
    · rw [if_neg h]; simp only [List.cons.injEq, h, false_and, decide_false]
theorem ints_refl (a : List Int) (ha : a.length ≤ 1000000) (k : Nat) (hk : a.length < k) : laminanum_Ints.f k a a = some true := by
  unfold laminanum_Ints.f
  rw [if_pos rfl, show (0 : Int) = ((0 : Nat) : Int) from rfl, ints_go a a rfl ha a.length 0 k (by omega) hk]
  simp
def stN (m : List Int) (want : List Bool) : List Int := (List.range m.length).map fun j : Nat => if rdOf false want j = true then 1 else frz (rd m j)
theorem stN_len (m : List Int) (want : List Bool) : (stN m want).length = m.length := by simp [stN]
theorem stN_rd (m : List Int) (want : List Bool) (j : Nat) (h : j < m.length) : rd (stN m want) j = if rdOf false want j = true then 1 else frz (rd m j) := by
  show (stN m want).getD (j : Int).toNat 0 = _
  rw [Int.toNat_natCast, List.getD_eq_getElem?_getD]
  simp [stN, h]
theorem stN_set (m : List Int) (want : List Bool) (v : Nat) (h : v < m.length) (hw : want.length = m.length) : (stN m want).set v 1 = stN m (want.set v true) := by
  apply List.ext_getElem?
  intro j
  rw [List.getElem?_set]
  by_cases hj : j < m.length
  · by_cases e : v = j
    · subst e
      rw [if_pos rfl, if_pos (by rw [stN_len]; exact h)]
      simp [stN, h, rdOf, hw]
    · rw [if_neg e]
      simp [stN, hj, rdOf, e]
  · rw [if_neg (by omega), List.getElem?_eq_none (by rw [stN_len]; omega), List.getElem?_eq_none (by rw [stN_len]; omega)]
theorem stN_zero (m : List Int) : m.map frz = stN m (List.replicate m.length false) := by
  apply List.ext_getElem?
  intro j
  by_cases hj : j < m.length
  · simp [stN, hj, rdOf, rd]
  · rw [List.getElem?_eq_none (by simp; omega), List.getElem?_eq_none (by rw [stN_len]; omega)]
theorem chg_st (m : List Int) (want : List Bool) (j : Nat) (h : j < m.length) : chg (stN m want) m j = (rdOf false want j || (rd (stN m want) j == 2)) := by
  unfold chg
  rw [stN_rd m want j h]
  cases hw : rdOf false want (j : Int)
  · simp only [Bool.false_eq_true, if_false, Bool.false_or]
    unfold frz
    by_cases h1 : rd m j = 1
    · rw [if_pos h1, h1]; rfl
    · rw [if_neg h1]
      have : (rd m j == 1) = false := beq_eq_false_iff_ne.2 h1
      rw [this]
      simp
  · rfl
theorem set_f (now : List Int) (v : Nat) (h : v < now.length) (hl : now.length < 1000000) : marks_Marks_Set.f now v 1 = some (now.set v 1, none) := by
  unfold marks_Marks_Set.f
  have ho : marks_odd.f 1 = some false := by rfl
  have hc : marks_Marks_byte_34.f now = some now := by unfold marks_Marks_byte_34.f; rw [if_pos (by omega)]
  rw [if_neg (by omega), if_neg (by omega), ho, Option.bind_some, if_neg (by simp), hc, Option.bind_some, if_pos (by omega), if_pos (by omega), Int.toNat_natCast]
theorem since_list (m : List Int) (want : List Bool) (set : List Int) (hm : m.length ≤ 256) (hw : want.length = m.length) : ∀ (r i k : Nat), i + r = m.length → 600 + r < k →
    laminalaw10_MarksSince.l1 k m (stN m want) want (chL (stN m want) m i) (m.length : Int) i = some true := by
  intro r
  induction r with
  | zero =>
    intro i k hi hk
    obtain ⟨k, rfl⟩ : ∃ k', k = k' + 1 := ⟨k - 1, by omega⟩
    have hc : marks_Marks_Changed.f (stN m want) m = some (chL (stN m want) m i) := by
      unfold marks_Marks_Changed.f
      rw [if_pos ⟨by rw [stN_len]; omega, by omega⟩, stN_len, Nat.max_self, show i = m.length by omega]
    have hl := chL_len (stN m want) m i
    rw [laminalaw10_MarksSince.l1, if_neg (by omega), hc, Option.bind_some, ints_refl _ (by omega) k (by omega)]
    rfl
  | succ r ih =>
    intro i k hi hk
    obtain ⟨k, rfl⟩ : ∃ k', k = k' + 1 := ⟨k - 1, by omega⟩
    have e : wrap64 ((i : Int) + 1) = ((i + 1 : Nat) : Int) := by unfold wrap64; omega
    have h := ih (i + 1) k (by omega) (by omega)
    have hl := chL_len (stN m want) m i
    have hg := chg_st m want i (by omega)
    rw [laminalaw10_MarksSince.l1, if_pos (by omega), if_pos (by omega), if_pos (by omega), e]
    cases hwi : rdOf false want (i : Int)
    · rw [hwi, Bool.false_or] at hg
      rw [if_neg (by simp), if_pos (by rw [stN_len]; omega)]
      by_cases h2 : rd (stN m want) i = 2
      · rw [chL_yes _ _ i (by rw [hg, h2]; rfl)] at h
        rw [if_pos h2, if_pos (by omega)]
        exact h
      · rw [chL_no _ _ i (by rw [hg]; exact beq_eq_false_iff_ne.2 h2)] at h
        rw [if_neg h2]
        exact h
    · rw [hwi, Bool.true_or] at hg
      rw [chL_yes _ _ i hg] at h
      rw [if_pos rfl, if_pos (by omega)]
      exact h
theorem since_set (m : List Int) (set : List Int) (hm : m.length ≤ 256) (hs : set.length ≤ 100) : ∀ (r i k : Nat) (want : List Bool), want.length = m.length → i + r = set.length → 2000 + 2 * r < k →
    laminalaw10_MarksSince.l0 k m (stN m want) want set (set.length : Int) i = some true := by
  intro r
  induction r with
  | zero =>
    intro i k want hw hi hk
    obtain ⟨k, rfl⟩ : ∃ k', k = k' + 1 := ⟨k - 1, by omega⟩
    rw [laminalaw10_MarksSince.l0, if_neg (by omega), if_pos (by rw [stN_len])]
    exact since_list m want set hm hw m.length 0 k (by omega) (by omega)
  | succ r ih =>
    intro i k want hw hi hk
    obtain ⟨k, rfl⟩ : ∃ k', k = k' + 2 := ⟨k - 2, by omega⟩
    have e : wrap64 ((i : Int) + 1) = ((i + 1 : Nat) : Int) := by unfold wrap64; omega
    have hskip : ∀ v : Int, laminalaw10_MarksSince.j2 (k + 1) m (stN m want) want v set (set.length : Int) i true = some true := by
      intro v
      rw [laminalaw10_MarksSince.j2, if_pos rfl, e]
      exact ih (i + 1) k want hw (by omega) (by omega)
    rw [laminalaw10_MarksSince.l0, if_pos (by omega), if_pos (by omega), if_pos (by omega)]
    generalize rd set (i : Int) = v
    by_cases h0 : v < 0
    · rw [if_pos h0]; exact hskip v
    rw [if_neg h0]
    by_cases h1 : v ≥ (m.length : Int)
    · rw [if_pos h1]; exact hskip v
    rw [if_neg h1, if_pos (by omega), if_pos (by omega)]
    obtain ⟨u, rfl⟩ := Int.eq_ofNat_of_zero_le (show 0 ≤ v by omega)
    cases hz : (rd m (u : Int) == 0)
    · rw [laminalaw10_MarksSince.j2, if_neg (by simp), set_f _ u (by rw [stN_len]; omega) (by rw [stN_len]; omega), Option.bind_some, if_pos (show ((stN m want).set u 1, (none : Option Int)).2.isNone = true from rfl), if_pos (by omega), if_pos (by omega), Int.toNat_natCast, e, stN_set m want u (by omega) hw]
      exact ih (i + 1) k (want.set u true) (by rw [List.length_set]; exact hw) (by omega) (by omega)
    · exact hskip _
theorem MarksSince : laminalaw10_MarksSince.Pure := by
  intro m set _ _ _ _ _ _
  refine ⟨5000, ?_⟩
  unfold laminalaw10_MarksSince.f
  rw [alive10, Option.bind_some, if_pos rfl]
  by_cases h0 : (m.length : Int) > 256
  · rw [if_pos h0]; rfl
  rw [if_neg h0]
  by_cases h1 : (set.length : Int) > 100
  · rw [if_pos h1]; rfl
  rw [if_neg h1, rgood_f m 5000 (by omega), Option.bind_some]
  by_cases hg : m.length ≤ 256 ∧ ∀ x ∈ m, x ≤ 3
  · rw [decide_eq_true hg]
    have hf : marks_Marks_Frozen.f m = some (m.map frz) := by unfold marks_Marks_Frozen.f; rw [if_pos (by omega)]
    rw [show (5000 : Nat) = 4999 + 1 from rfl, laminalaw10_MarksSince.j0, if_neg (by simp), hf, Option.bind_some, if_pos (by omega), if_pos (by omega), Int.toNat_natCast, stN_zero]
    exact since_set m set (by omega) (by omega) set.length 0 4999 _ (by simp) (by omega) (by omega)
  · rw [decide_eq_false hg]; rfl

end Go.Proofs.Ytdfkecfmmcdgiaa.Pure
