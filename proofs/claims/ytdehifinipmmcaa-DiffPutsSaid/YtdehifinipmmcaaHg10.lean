/- Contracts of functions of the given program, and what they lean on: written by this session's own program, out of hand texts laid into the kit's printer. -/
import Derived.Test.YtdehifinipmmcaaHp0
import Derived.Test.YtdehifinipmmcaaHg4
namespace Go.Proofs.Ytdehifinipmmcaa.Hp
open Go.RowKit Go.Proofs.YtdehifinipmmcaaW.PrintWords Go.Proofs.YtdehifinipmmcaaW.PrintLast Go.Proofs.YtdehifinipmmcaaW.PrintMore
attribute [local go_sem] max2_int min2_int max_two min_two max_three min_three max_four min_four   -- for this text's walks alone
set_option linter.unusedVariables false
set_option linter.unusedSimpArgs false

/-! ### laminaref17_Good: function 14 -/
def toP (r : S65) : S61 := ⟨r.f0, r.f1, r.f2, r.f3⟩
theorem toP_drop (l : List S65) (i : Nat) (h : i < l.length) : (l.map toP).drop i = toP (rd_T65 l i) :: (l.map toP).drop (i + 1) := by
  rw [List.drop_eq_getElem_cons (by simpa using h)]
  simp [rd_T65, h]
theorem goodR_no (T a : Int) (r : S61) (l : List S61) (h : ¬ (a ≤ r.f0 ∧ 1 ≤ r.f1 ∧ r.f1 ≤ T ∧ r.f0 ≤ T - r.f1 ∧ (r.f3.length : Int) = (if r.f2 = true then 0 else r.f1))) : goodR T a (r :: l) = false := by
  cases hg : goodR T a (r :: l)
  · rfl
  · exact absurd ((goodR_cons T a r l).1 hg).1 h
theorem goodR_yes (T a : Int) (r : S61) (l : List S61) (h : a ≤ r.f0 ∧ 1 ≤ r.f1 ∧ r.f1 ≤ T ∧ r.f0 ≤ T - r.f1 ∧ (r.f3.length : Int) = (if r.f2 = true then 0 else r.f1)) : goodR T a (r :: l) = goodR T (r.f0 + r.f1) l := by
  cases hg : goodR T (r.f0 + r.f1) l
  · cases h2 : goodR T a (r :: l)
    · rfl
    · rw [((goodR_cons T a r l).1 h2).2] at hg; cases hg
  · exact (goodR_cons T a r l).2 ⟨h, hg⟩
set_option maxRecDepth 100000 in
set_option maxHeartbeats 8000000 in
theorem laminaref17_Good.calls (F T : Int) (A2 : Option Addr) (c2 : Nat) (l2 : List S65) (w : World) (hr2 : Kd.C k65 w A2 l2.length l2) (hc2 : l2.length ≤ c2) (hl2 : l2.length ≤ 1000000) :
    Calls Try.prog 14 #[.agg #[.int .i64 F, .int .i64 T, .slice A2 l2.length c2]] w fun e w' => e = .returned (.bool (goodD F T (l2.map toP))) ∧ Below w.heap.size w w' := by
  have HR := Aside0.mk hr2
  clear hr2
  have HB0 := Aside0.mk (below_alloc (Below.refl w.heap.size w) (.cells #[.int .i64 F, .int .i64 T, .slice A2 l2.length c2] 24))
  have HN := Aside0.mk (fun (h : ¬ (0 ≤ F ∧ F ≤ 4096 ∧ 0 ≤ T ∧ T ≤ 4096)) => show goodD F T (l2.map toP) = false by unfold goodD; rw [decide_eq_false h, Bool.false_and])
  by_cases h1 : F < 0
  · go_enter Try.func14, Try.ntmps14
    go_wp2
    go_ret
    exact ⟨by rw [HN.out (by omega)]; rfl, HB0.out⟩
  by_cases h2 : F > 4096
  · go_enter Try.func14, Try.ntmps14
    go_wp2
    go_ret
    exact ⟨by rw [HN.out (by omega)]; rfl, HB0.out⟩
  by_cases h3 : T < 0
  · go_enter Try.func14, Try.ntmps14
    go_wp2
    go_ret
    exact ⟨by rw [HN.out (by omega)]; rfl, HB0.out⟩
  by_cases h4 : T > 4096
  · go_enter Try.func14, Try.ntmps14
    go_wp2
    go_ret
    exact ⟨by rw [HN.out (by omega)]; rfl, HB0.out⟩
  have HY := Aside0.mk (show goodD F T (l2.map toP) = goodR T 0 (l2.map toP) by unfold goodD; rw [decide_eq_true (by omega), Bool.true_and])
  go_enter Try.func14, Try.ntmps14
  go_wp2
  have BK0 := Aside0.mk (blk_new w (.cells #[.int .i64 F, .int .i64 T, .slice A2 l2.length c2] 24))
  go_loopw [3, 4] (fun v3 v4 wr => ∃ (a : Int) (i : Nat), i ≤ l2.length ∧ v3 = .int .i64 a ∧ v4 = .int .i64 i ∧ 0 ≤ a ∧ a ≤ 4096 ∧ Aside0 (goodR T 0 (l2.map toP) = goodR T a ((l2.map toP).drop i)) ∧ Aside0 (Below w.heap.size w wr) ∧ Aside0 (wr.heap[w.heap.size]? = some (.cells #[.int .i64 F, .int .i64 T, .slice A2 l2.length c2] 24 (0, 0)))) (fun _ v4 _ => l2.length - (intOf v4).toNat)
  case atStart => exact ⟨0, 0, by omega, rfl, rfl, by omega, by omega, ⟨rfl⟩, HB0, BK0⟩
  case round =>
    clear BK0 HB0
    obtain ⟨a, i, hi, rfl, rfl, ha0, ha1, HG, HB, BK⟩ := hrel
    have hz1 : wr.cell? ⟨w.heap.size, 1, none⟩ = some (.int .i64 T) := (blk_cell BK.out 1).trans rfl
    have hz2 : wr.cell? ⟨w.heap.size, 2, none⟩ = some (.slice A2 l2.length c2) := (blk_cell BK.out 2).trans rfl
    have hz1a : ∀ ob, (wr.alloc ob).cell? ⟨w.heap.size, 1, none⟩ = some (.int .i64 T) := fun ob => Lib.cell?_alloc_some ob hz1
    by_cases hlt : i < l2.length
    · have HD := Aside0.mk (toP_drop l2 i hlt)
      obtain ⟨ad, A3, c3, e, hx0, hx1, hx2, hx3, hl3, -⟩ := at_T65 (Kd.C_below HR.out HB.out) i (by omega) (by omega)
      subst e
      simp only [Int.toNat_natCast] at hx0 hx1 hx2 hx3
      generalize rd_T65 l2 i = r at *
      obtain ⟨r0, r1, z, d⟩ := r
      simp only at hx0 hx1 hx2 hx3 hl3
      have HF := Aside0.mk (fun (h : ¬ (a ≤ r0 ∧ 1 ≤ r1 ∧ r1 ≤ T ∧ r0 ≤ T - r1 ∧ (d.length : Int) = (if z = true then 0 else r1))) => show goodD F T (l2.map toP) = false by rw [HY.out, HG.out, HD.out]; exact goodR_no _ _ _ _ h)
      have HE := Aside0.mk (below_alloc HB.out (.cells #[.int .i64 r0, .int .i64 r1, .bool z, .slice A3 d.length c3] 65))
      have HEK := Aside0.mk (blk_alloc BK.out (.cells #[.int .i64 r0, .int .i64 r1, .bool z, .slice A3 d.length c3] 65))
      by_cases g1 : r0 < a
      · go_wp2
        go_ret
        exact ⟨by rw [HF.out (by omega)]; rfl, HE.out⟩
      by_cases g2 : r1 < 1
      · go_wp2
        go_ret
        exact ⟨by rw [HF.out (by omega)]; rfl, HE.out⟩
      by_cases g3 : r0 > T
      · go_wp2
        go_ret
        exact ⟨by rw [HF.out (by omega)]; rfl, HE.out⟩
      have q1 : IntKind.i64.wrap (T - r0) = T - r0 := IntWalk.i64_in _ (by omega)
      by_cases g4 : r1 > T - r0
      · go_wp2
        go_ret
        exact ⟨by rw [HF.out (by omega)]; rfl, HE.out⟩
      have q2 : IntKind.i64.wrap (r0 + r1) = r0 + r1 := IntWalk.i64_in _ (by omega)
      cases z
      · by_cases g5 : (d.length : Int) = r1
        · have g6 : ((d.length : Int) == r1) = true := beq_iff_eq.2 g5
          have HS := Aside0.mk (show goodR T 0 (l2.map toP) = goodR T (r0 + r1) ((l2.map toP).drop (i + 1)) by rw [HG.out, HD.out]; exact goodR_yes _ _ _ _ ⟨by show a ≤ r0; omega, by show 1 ≤ r1; omega, by show r1 ≤ T; omega, by show r0 ≤ T - r1; omega, by simpa [toP] using g5⟩)
          clear g5
          go_wp2
          exact ⟨⟨r0 + r1, i + 1, by omega, by go_num, by go_num, by omega, by omega, HS, ⟨below_alloc HB.out _⟩, ⟨blk_alloc BK.out _⟩⟩, by simp [intOf]; omega⟩
        · have g6 : ((d.length : Int) == r1) = false := beq_eq_false_iff_ne.2 g5
          have HN5 := Aside0.mk g5
          clear g5
          go_wp2
          go_ret
          exact ⟨by rw [HF.out (fun h => HN5.out (by simpa using h.2.2.2.2))]; rfl, HE.out⟩
      · by_cases g5 : 0 < d.length
        · go_wp2
          go_ret
          exact ⟨by rw [HF.out (fun h => by have := h.2.2.2.2; (first | rw [if_pos rfl] at this | rw [if_pos trivial] at this); omega)]; rfl, HE.out⟩
        · obtain rfl : d = [] := List.eq_nil_of_length_eq_zero (by omega)
          have HS := Aside0.mk (show goodR T 0 (l2.map toP) = goodR T (r0 + r1) ((l2.map toP).drop (i + 1)) by rw [HG.out, HD.out]; exact goodR_yes _ _ _ _ ⟨by show a ≤ r0; omega, by show 1 ≤ r1; omega, by show r1 ≤ T; omega, by show r0 ≤ T - r1; omega, by show (([] : List Int).length : Int) = (if true = true then 0 else r1); rw [if_pos rfl]; rfl⟩)
          clear g5 HE HEK HF HD
          go_wp2
          exact ⟨⟨r0 + r1, i + 1, by omega, by go_num, by go_num, by omega, by omega, HS, ⟨below_alloc HB.out _⟩, ⟨blk_alloc BK.out _⟩⟩, by simp [intOf]; omega⟩
    · have hd : (l2.map toP).drop i = [] := List.drop_eq_nil_of_le (by simp; omega)
      have HE := Aside0.mk (show goodD F T (l2.map toP) = true by rw [HY.out, HG.out, hd]; rfl)
      clear hd
      go_wp2
      go_ret
      exact ⟨by rw [HE.out]; rfl, HB.out⟩

end Go.Proofs.Ytdehifinipmmcaa.Hp
