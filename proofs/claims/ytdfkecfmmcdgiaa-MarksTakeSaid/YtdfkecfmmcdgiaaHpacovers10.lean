/- Contracts of functions of the given program, and what they lean on: written by this session's own program hprint.py, which lays hand texts into the kit's printer. -/
import Derived.Test.YtdfkecfmmcdgiaaHp0
import Derived.Test.YtdfkecfmmcdgiaaHpaalive10
import Derived.Test.YtdfkecfmmcdgiaaHpf16
import Derived.Test.YtdfkecfmmcdgiaaHpf20
import Derived.Test.YtdfkecfmmcdgiaaHpf19
import Derived.Test.YtdfkecfmmcdgiaaHpf21
import Derived.Test.YtdfkecfmmcdgiaaHpf37
import Derived.Test.YtdfkecfmmcdgiaaHpf22
import Derived.Test.YtdfkecfmmcdgiaaHpf4
namespace Go.Proofs.Ytdfkecfmmcdgiaa.Hp
open Go.RowKit Go.Proofs.YtdfkecfmmcdgiaaW.PrintWords Go.Proofs.YtdfkecfmmcdgiaaW.PrintLast Go.Proofs.YtdfkecfmmcdgiaaW.PrintMore
attribute [local go_sem] max2_int min2_int max_two min_two max_three min_three max_four min_four   -- for this text's walks alone
set_option linter.unusedVariables false
set_option linter.unusedSimpArgs false

-- AUX covers10
def covB (x : List Int) (t : List Bool) : Nat → Nat → Bool
  | 0, _ => true
  | m + 1, i => (!(rdOf false t i) || (rd x i != 0)) && covB x t m (i + 1)
theorem at10 (x : List Int) (i : Nat) : marks_Marks_at.f x i = some (rd x i) := by
  unfold marks_Marks_at.f
  by_cases h : (i : Int) < (x.length : Int)
  · rw [if_pos h, if_pos (by omega)]
  · rw [if_neg h]; simp [rd, List.getElem?_eq_none (show x.length ≤ i by omega)]
theorem mark10 (x : List Int) (i : Nat) : laminaref10_Mark.f x i = some (rd x i) := by
  unfold laminaref10_Mark.f
  by_cases h : (i : Int) < (x.length : Int)
  · rw [if_pos h, if_pos (by omega)]
  · rw [if_neg h]; simp [rd, List.getElem?_eq_none (show x.length ≤ i by omega)]
theorem cov_go (x : List Int) (t : List Bool) (hl : t.length ≤ 2000) : ∀ (m i k : Nat), i + m = t.length → m < k → marks_Marks_Covers.l0 k x t (t.length : Int) i = some (covB x t m i) := by
  intro m
  induction m with
  | zero =>
    intro i k hi hk
    obtain ⟨k, rfl⟩ : ∃ k', k = k' + 1 := ⟨k - 1, by omega⟩
    rw [marks_Marks_Covers.l0, if_neg (by omega)]; rfl
  | succ m ih =>
    intro i k hi hk
    obtain ⟨k, rfl⟩ : ∃ k', k = k' + 1 := ⟨k - 1, by omega⟩
    rw [marks_Marks_Covers.l0, if_pos (by omega), if_pos (by omega), if_pos (by omega), w64 i (by omega), ih (i + 1) k (by omega) (by omega), at10]
    rw [show covB x t (m + 1) i = ((!(rdOf false t i) || (rd x i != 0)) && covB x t m (i + 1)) from rfl]
    cases rdOf false t i
    · simp
    · simp only [if_pos, Option.bind_some, Bool.not_true, Bool.false_or]
      by_cases h0 : rd x i = 0
      · simp [h0]
      · simp [h0]
theorem cov_f (x : List Int) (t : List Bool) (hl : t.length ≤ 2000) (k : Nat) (hk : t.length < k) : marks_Marks_Covers.f k x t = some (covB x t t.length 0) := cov_go x t hl t.length 0 k (by omega) hk
theorem rscan_go (a b : List Bool) (hl : a.length ≤ 2000) : ∀ (m i k : Nat), i + m = a.length → m < k → laminaref10_Scan.l0 k a b ((List.range i).map (marks_Scan.v a b)) i = some (marks_Scan.L a b) := by
  intro m
  induction m with
  | zero =>
    intro i k hi hk
    obtain ⟨k, rfl⟩ : ∃ k', k = k' + 1 := ⟨k - 1, by omega⟩
    rw [laminaref10_Scan.l0, if_neg (by omega)]
    rw [show i = a.length by omega]; rfl
  | succ m ih =>
    intro i k hi hk
    obtain ⟨k, rfl⟩ : ∃ k', k = k' + 1 := ⟨k - 1, by omega⟩
    have h := ih (i + 1) k (by omega) (by omega)
    rw [List.range_succ, List.map_append, List.map_singleton] at h
    have hlen : ((List.range i).map (marks_Scan.v a b)).length < 140737488355328 := by simp; omega
    rw [laminaref10_Scan.l0, if_pos (by omega), if_pos (by omega), w64 i (by omega)]
    simp only [if_pos hlen]
    unfold marks_Scan.v at h ⊢
    cases ha : rdOf false a (i : Int)
    · rw [ha] at h; simpa using h
    · rw [ha] at h
      by_cases hb : (i : Int) < b.length
      · cases hc : rdOf false b (i : Int)
        · rw [hc] at h; simpa [hb] using h
        · rw [hc] at h; simpa [hb] using h
      · simpa [hb] using h
theorem rscan_f (a b : List Bool) (hl : a.length ≤ 2000) (k : Nat) (hk : a.length < k) : laminaref10_Scan.f k a b = some (marks_Scan.L a b) := rscan_go a b hl a.length 0 k (by omega) hk
theorem cov_scan (a b : List Bool) : ∀ (m i : Nat), i + m = a.length → covB (marks_Scan.L a b) a m i = true := by
  intro m
  induction m with
  | zero => intro i _; rfl
  | succ m ih =>
    intro i hi
    unfold covB
    rw [ih (i + 1) (by omega), Bool.and_true]
    cases ha : rdOf false a (i : Int)
    · rfl
    · have e : rd (marks_Scan.L a b) (i : Int) = marks_Scan.v a b i := by
        simp [rd, marks_Scan.L, show i < a.length by omega]
      rw [e]
      unfold marks_Scan.v
      rw [if_pos ha]
      split <;> rfl
theorem same_refl (l : List Int) : laminanum_Same.f l l = some true := by simp [laminanum_Same.f]
theorem mscan_go (a b : List Bool) (x : List Int) (hl : a.length ≤ 2000) : ∀ (m i k : Nat) (c : Bool), i + m = a.length → m + 2002 < k → laminalaw10_MarksScan.l0 k a b x (marks_Scan.L a b) c a (a.length : Int) i = some (covB x a a.length 0 == (c && covB x a m i)) := by
  intro m
  induction m with
  | zero =>
    intro i k c hi hk
    obtain ⟨k, rfl⟩ : ∃ k', k = k' + 1 := ⟨k - 1, by omega⟩
    rw [laminalaw10_MarksScan.l0, if_neg (by omega), rscan_f a b hl k (by omega), Option.bind_some, same_refl, Option.bind_some, if_pos rfl, cov_f _ a hl k (by omega), Option.bind_some, cov_scan a b _ 0 (by omega), if_pos rfl, cov_f _ a hl k (by omega), Option.bind_some]
    simp [covB]
  | succ m ih =>
    intro i k c hi hk
    obtain ⟨k, rfl⟩ : ∃ k', k = k' + 1 := ⟨k - 1, by omega⟩
    rw [laminalaw10_MarksScan.l0, if_pos (by omega), if_pos (by omega), if_pos (by omega), w64 i (by omega), mark10]
    rw [show covB x a (m + 1) i = ((!(rdOf false a i) || (rd x i != 0)) && covB x a m (i + 1)) from rfl]
    cases c
    · rw [if_neg (by simp), ih (i + 1) k false (by omega) (by omega)]; simp
    · cases ha : rdOf false a (i : Int)
      · rw [if_pos rfl, if_neg (by simp), ih (i + 1) k true (by omega) (by omega)]; simp
      · rw [if_pos rfl, if_pos rfl, Option.bind_some, ih (i + 1) k _ (by omega) (by omega)]; simp
theorem mscan_f (a b : List Bool) (x : List Int) : ∃ k, laminalaw10_MarksScan.f k a b x = some true := by
  refine ⟨5000, ?_⟩
  unfold laminalaw10_MarksScan.f
  rw [alive10, Option.bind_some, if_pos rfl]
  by_cases h0 : (a.length : Int) > 2000
  · rw [if_pos h0]; rfl
  · rw [if_neg h0]
    by_cases h1 : (b.length : Int) > 2000
    · rw [if_pos h1]; rfl
    · rw [if_neg h1]
      by_cases h2 : (x.length : Int) > 2000
      · rw [decide_eq_true h2]; rfl
      · rw [decide_eq_false h2]
        rw [show (5000 : Nat) = 4999 + 1 from rfl, laminalaw10_MarksScan.j0, if_neg (by simp)]
        have hs : marks_Scan.f a b = some (marks_Scan.L a b) := by unfold marks_Scan.f; rw [if_pos (by omega)]
        rw [hs, Option.bind_some]
        have := mscan_go a b x (by omega) a.length 0 4999 true (by omega) (by omega)
        simp only [Int.natCast_zero] at this
        rw [this]
        simp
theorem laminalaw10_MarksScan.law (A0 : Option Addr) (c0 : Nat) (l0 : List Bool) (A1 : Option Addr) (c1 : Nat) (l1 : List Bool) (A2 : Option Addr) (c2 : Nat) (l2 : List Int) (w : World)
    (hr0 : Kd.C Kd.bool w A0 l0.length l0) (hc0 : l0.length ≤ c0) (_hy0 : l0.length * 1 ≤ 140737488351232) (_hw0 : ∀ n ∈ l0, True)
    (hr1 : Kd.C Kd.bool w A1 l1.length l1) (hc1 : l1.length ≤ c1) (_hy1 : l1.length * 1 ≤ 140737488351232) (_hw1 : ∀ n ∈ l1, True)
    (hr2 : Kd.C (Kd.int .u8) w A2 l2.length l2) (hc2 : l2.length ≤ c2) (_hy2 : l2.length * 1 ≤ 140737488351232) (_hw2 : ∀ n ∈ l2, (Lit.int .u8 n).wf = true) :
    Calls Try.prog 4 #[.slice A0 l0.length c0, .slice A1 l1.length c1, .slice A2 l2.length c2] w fun e w' => e = .returned (.bool true) ∧ Below w.heap.size w w' := by
  obtain ⟨k, hk⟩ := mscan_f l0 l1 l2
  exact laminalaw10_MarksScan.calls k A0 c0 l0 A1 c1 l1 A2 c2 l2 true w hr0 hc0 hr1 hc1 hr2 hc2 hk

end Go.Proofs.Ytdfkecfmmcdgiaa.Hp
