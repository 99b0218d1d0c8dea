/- Contracts of functions of the given program, and what they lean on: written by this session's own program, out of hand texts laid into the kit's printer. -/
import Derived.Test.YtdehifinipmmcaaHp0
import Derived.Test.YtdehifinipmmcaaHg1
import Derived.Test.YtdehifinipmmcaaHg2
import Derived.Test.YtdehifinipmmcaaHg3
import Derived.Test.YtdehifinipmmcaaHg4
import Derived.Test.YtdehifinipmmcaaHg5
namespace Go.Proofs.Ytdehifinipmmcaa.Hp
open Go.RowKit Go.Proofs.YtdehifinipmmcaaW.PrintWords Go.Proofs.YtdehifinipmmcaaW.PrintLast Go.Proofs.YtdehifinipmmcaaW.PrintMore
attribute [local go_sem] max2_int min2_int max_two min_two max_three min_three max_four min_four   -- for this text's walks alone
set_option linter.unusedVariables false
set_option linter.unusedSimpArgs false

/-! ### laminalaw17_DiffApplies: function 3 -/
set_option maxRecDepth 100000 in
set_option maxHeartbeats 8000000 in
theorem laminalaw17_DiffApplies.law (cs0 : Array Value) (x0 : S24) (A1 : Option Addr) (c1 : Nat) (l1 : List Int) (w : World) (hk0 : k24.K w x0 cs0.toList)
    (_hg0 : (Lit.int .i64 x0.f0).wf = true ∧ (Lit.int .i64 x0.f1).wf = true ∧ (x0.f2.length * 48 ≤ 140737488351232 ∧ ∀ n ∈ x0.f2, (Lit.int .i64 n.f0).wf = true ∧ (Lit.int .i64 n.f1).wf = true ∧ True ∧ (n.f3.length * 1 ≤ 140737488351232 ∧ ∀ m ∈ n.f3, (Lit.int .u8 m).wf = true)))
    (hr1 : Kd.C (Kd.int .u8) w A1 l1.length l1) (hc1 : l1.length ≤ c1) (_hy1 : l1.length * 1 ≤ 140737488351232) (_hw1 : ∀ n ∈ l1, (Lit.int .u8 n).wf = true) :
    Calls Try.prog 3 #[.agg cs0, .slice A1 l1.length c1] w fun e w' => e = .returned (.bool true) ∧ Below w.heap.size w w' := by
  obtain ⟨A2, c2, hcs, l2, g2⟩ := k24_open hk0
  obtain rfl : cs0 = #[.int .i64 x0.f0, .int .i64 x0.f1, .slice A2 x0.f2.length c2] := by
    apply Array.toList_inj.1
    rw [hcs]
  obtain ⟨F, T, L⟩ := x0
  simp only at l2 g2 _hg0 ⊢
  have HG := Aside0.mk g2
  have HR1 := Aside0.mk hr1
  have HAL := fun W => laminalaw17_alive.calls W
  have hm1 := hr1.2.1
  obtain ⟨r, hlf, hlp⟩ := large_f F T L
  have HLF := Aside0.mk hlf
  have HLP := Aside0.mk hlp
  clear hlf hlp hcs hk0 g2 hr1 _hg0 _hw1
  cases r
  case true =>
    go_enter Try.func3, Try.ntmps3
    go_wp2_with fail
    refine (HAL _).mono ?_
    rintro e w1 ⟨rfl, hb⟩
    have hk := blk_below (blk_new w (.cells #[.int .i64 F, .int .i64 T, .slice A2 L.length c2] 24)) hb
    have hz0 : w1.cell? ⟨w.heap.size, 0, none⟩ = some (.int .i64 F) := (blk_cell hk 0).trans rfl
    have hz1 : w1.cell? ⟨w.heap.size, 1, none⟩ = some (.int .i64 T) := (blk_cell hk 1).trans rfl
    have hz2 : w1.cell? ⟨w.heap.size, 2, none⟩ = some (.slice A2 L.length c2) := (blk_cell hk 2).trans rfl
    have HB1 := Aside0.mk (below_step (below_alloc (Below.refl w.heap.size w) _) hb)
    clear hb hk HAL
    go_wp2_with fail
    refine (laminalaw17_large.calls 50 F T A2 c2 L true _ (Kd.C_below HG.out HB1.out) l2 HLF.out).mono ?_
    rintro e w2 ⟨rfl, hb2⟩
    go_wp2
    go_ret
    exact ⟨rfl, below_step HB1.out hb2⟩
  have hL := HLP.out rfl
  have HLL := Aside0.mk hL
  have hL40 := hL.1
  by_cases hbig : (l1.length : Int) > 5000
  · clear hL
    go_enter Try.func3, Try.ntmps3
    go_wp2_with fail
    refine (HAL _).mono ?_
    rintro e w1 ⟨rfl, hb⟩
    have hk := blk_below (blk_new w (.cells #[.int .i64 F, .int .i64 T, .slice A2 L.length c2] 24)) hb
    have hz0 : w1.cell? ⟨w.heap.size, 0, none⟩ = some (.int .i64 F) := (blk_cell hk 0).trans rfl
    have hz1 : w1.cell? ⟨w.heap.size, 1, none⟩ = some (.int .i64 T) := (blk_cell hk 1).trans rfl
    have hz2 : w1.cell? ⟨w.heap.size, 2, none⟩ = some (.slice A2 L.length c2) := (blk_cell hk 2).trans rfl
    have HB1 := Aside0.mk (below_step (below_alloc (Below.refl w.heap.size w) _) hb)
    clear hb hk HAL
    go_wp2_with fail
    refine (laminalaw17_large.calls 50 F T A2 c2 L false _ (Kd.C_below HG.out HB1.out) l2 HLF.out).mono ?_
    rintro e w2 ⟨rfl, hb2⟩
    go_wp2
    go_ret
    exact ⟨rfl, below_step HB1.out hb2⟩
  have HPF := Aside0.mk (program_f F T L hL.1 hL.2)
  clear hL
  have hcase : ∃ gd xs er, gd = goodD F T (L.map toP) ∧ applyO F T (L.map toP) l1 = (xs, er) ∧ ((gd = false ∧ xs = [] ∧ er = some 2) ∨ (gd = true ∧ ¬ (l1.length : Int) = F ∧ xs = [] ∧ er = some 1) ∨ (gd = true ∧ (l1.length : Int) = F ∧ xs = applyR (szL l1 T.toNat) (L.map toP) ∧ er = none)) := by
    refine ⟨goodD F T (L.map toP), (applyO F T (L.map toP) l1).1, (applyO F T (L.map toP) l1).2, rfl, rfl, ?_⟩
    unfold applyO
    by_cases hg : goodD F T (L.map toP) = true
    · rw [if_pos hg]
      by_cases hF : (l1.length : Int) = F
      · rw [if_pos hF]; exact .inr (.inr ⟨hg, hF, rfl, rfl⟩)
      · rw [if_neg hF]; exact .inr (.inl ⟨hg, hF, rfl, rfl⟩)
    · rw [if_neg hg]; exact .inl ⟨by simpa using hg, rfl, rfl⟩
  obtain ⟨gd, xs, er, hgd, hao, hcs⟩ := hcase
  have HCS := Aside0.mk hcs
  have HGD := Aside0.mk hgd
  have HAP := fun (A : Option Addr) (c : Nat) (Ac : Option Addr) (cc : Nat) W h1 h2 h3 h4 h5 => diff_Apply.calls F T A c (L.map toP) Ac cc l1 W h1 h2 h3 h4 h5
  rw [hao] at HAP
  simp only [List.length_map] at HAP
  have HGG := fun W h1 h2 h3 => laminaref17_Good.calls F T A2 c2 L W h1 h2 h3
  rw [← hgd] at HGG
  clear hcs hgd hao
  have hl5 : l1.length ≤ 5000 := by omega
  go_enter Try.func3, Try.ntmps3
  go_wp2_with fail
  refine (HAL _).mono ?_
  rintro e w1 ⟨rfl, hb⟩
  have hk := blk_below (blk_new w (.cells #[.int .i64 F, .int .i64 T, .slice A2 L.length c2] 24)) hb
  have HK1 := Aside0.mk hk
  have hz0 : w1.cell? ⟨w.heap.size, 0, none⟩ = some (.int .i64 F) := (blk_cell hk 0).trans rfl
  have hz1 : w1.cell? ⟨w.heap.size, 1, none⟩ = some (.int .i64 T) := (blk_cell hk 1).trans rfl
  have hz2 : w1.cell? ⟨w.heap.size, 2, none⟩ = some (.slice A2 L.length c2) := (blk_cell hk 2).trans rfl
  have HB1 := Aside0.mk (below_step (below_alloc (Below.refl w.heap.size w) _) hb)
  clear hb hk HAL
  go_wp2_with fail
  refine (laminalaw17_large.calls 50 F T A2 c2 L false _ (Kd.C_below HG.out HB1.out) l2 HLF.out).mono ?_
  rintro e w2 ⟨rfl, hb2⟩
  have HK2 := Aside0.mk (blk_below HK1.out hb2)
  have HB2 := Aside0.mk (below_step HB1.out hb2)
  clear hb2 hz0 hz1 hz2
  go_wp2_with fail
  refine (laminanum_Copy.calls A1 c1 l1 _ (Kd.C_below HR1.out HB2.out) (by omega)).mono ?_
  rintro e w3 ⟨g, cap, rfl, hg, hR3, hb3⟩
  have HK3 := Aside0.mk (blk_below HK2.out hb3)
  have HG3 := Aside0.mk (show g < w3.heap.size from Kd.R_lt hR3 g rfl)
  have HR3 := Aside0.mk (Kd.R_lower hR3 HB2.out.size)
  have HB3 := Aside0.mk (below_step HB2.out hb3)
  have hz0 : w3.cell? ⟨w.heap.size, 0, none⟩ = some (.int .i64 F) := (blk_cell HK3.out 0).trans rfl
  have hz1 : w3.cell? ⟨w.heap.size, 1, none⟩ = some (.int .i64 T) := (blk_cell HK3.out 1).trans rfl
  have hz2 : w3.cell? ⟨w.heap.size, 2, none⟩ = some (.slice A2 L.length c2) := (blk_cell HK3.out 2).trans rfl
  obtain ⟨hC3, hcap⟩ := Kp_C HR3.out
  have HC3 := Aside0.mk hC3
  clear hR3 hb3 hC3 hg
  go_wp2_with fail
  refine (laminalaw17_program.calls 50 F T A2 c2 L F T (L.map toP) _ (Kd.C_below HG.out HB3.out) l2 HPF.out).mono ?_
  rintro e w4 ⟨v4, rfl, hs4, hb4⟩
  obtain ⟨A4, c4, rfl⟩ := Kd.S_slice hs4
  have hc4 := (Kd.R_reads' (Kd.S_R hs4)).2
  simp only [List.length_map] at hc4
  have HC4 := Aside0.mk hc4
  clear hc4
  have HB4 := Aside0.mk (below_step HB3.out hb4)
  have HK4 := Aside0.mk (blk_below HK3.out hb4)
  have HR4 := Aside0.mk (Kd.R_below HR3.out hb4)
  have HC34 := Aside0.mk (Kd.C_below HC3.out hb4)
  have h34 := hb4.size
  clear hs4 hb4 hz0 hz1 hz2
  go_wp2_with fail
  refine (HAP A4 c4 (some ⟨g, 0, none⟩) cap _ HC4.out.2 HC4.out.1 HC34.out (by omega) (by omega)).mono ?_
  rintro e w5 ⟨v5, rfl, ho5, hb5⟩
  obtain ⟨A5, c5, rfl, -⟩ := Kd.R_reads ho5
  have HX5 := Aside0.mk (fun k (hk : (Value.slice A5 xs.length c5).ownBlock = some k) => (Kd.R_base ho5 k hk : w4.heap.size ≤ k))
  have HO5 := Aside0.mk (Kd.R_lower ho5 HB4.out.size)
  have HB5 := Aside0.mk (below_step HB4.out hb5)
  have HK5 := Aside0.mk (blk_below HK4.out hb5)
  have HR5 := Aside0.mk (Kd.R_below HR4.out hb5)
  clear ho5 hb5 HAP
  go_wp2_with fail
  refine (laminanum_Kept.calls g cap _ _ A1 c1 l1 _ HR5.out (Kd.C_below HR1.out HB5.out) (by omega)).mono ?_
  rintro e w6 ⟨rfl, ⟨n6, rfl⟩⟩
  have hz0 : w5.cell? ⟨w.heap.size, 0, none⟩ = some (.int .i64 F) := (blk_cell HK5.out 0).trans rfl
  have hz1 : w5.cell? ⟨w.heap.size, 1, none⟩ = some (.int .i64 T) := (blk_cell HK5.out 1).trans rfl
  have hz2 : w5.cell? ⟨w.heap.size, 2, none⟩ = some (.slice A2 L.length c2) := (blk_cell HK5.out 2).trans rfl
  go_wp2_with fail
  refine (HGG _ (Kd.C_drewN (Kd.C_below HG.out HB5.out) _) l2 (by omega)).mono ?_
  rintro e w7 ⟨rfl, hb7⟩
  have HB7 := Aside0.mk (below_step (pw_below_drewN HB5.out n6) hb7)
  have HK7 := Aside0.mk (blk_below (blk_drewN HK5.out n6) hb7)
  have HR7 := Aside0.mk (Kd.R_below (Kd.R_drewN HR5.out n6) hb7)
  have HO7 := Aside0.mk (Kd.R_below (Kd.R_drewN HO5.out n6) hb7)
  clear hb7 hz0 hz1 hz2 HGG
  have hz0 : w7.cell? ⟨w.heap.size, 0, none⟩ = some (.int .i64 F) := (blk_cell HK7.out 0).trans rfl
  have hz1 : w7.cell? ⟨w.heap.size, 1, none⟩ = some (.int .i64 T) := (blk_cell HK7.out 1).trans rfl
  have hz2 : w7.cell? ⟨w.heap.size, 2, none⟩ = some (.slice A2 L.length c2) := (blk_cell HK7.out 2).trans rfl
  rcases HCS.out with ⟨rfl, rfl, rfl⟩ | ⟨rfl, hF, rfl, rfl⟩ | ⟨rfl, hF, hxs, rfl⟩
  · go_wp2_with fail
    refine (laminanum_Is.calls (some 2) 2 true _ rfl).mono ?_
    rintro e w8 ⟨rfl, ⟨n8, rfl⟩⟩
    go_wp2
    go_ret
    exact ⟨rfl, pw_below_drewN HB7.out _⟩
  · have hF2 : ((l1.length : Int) == F) = false := beq_eq_false_iff_ne.2 hF
    clear hF
    go_wp2_with fail
    refine (laminanum_Is.calls (some 1) 1 true _ rfl).mono ?_
    rintro e w8 ⟨rfl, ⟨n8, rfl⟩⟩
    go_wp2
    go_ret
    exact ⟨rfl, pw_below_drewN HB7.out _⟩
  · have hT : 0 ≤ T ∧ T ≤ 4096 := by have := HGD.out; unfold goodD at this; have := this.symm; simp only [Bool.and_eq_true, decide_eq_true_eq] at this; omega
    obtain ⟨n, rfl⟩ := Int.eq_ofNat_of_zero_le hT.1
    have HRA := Aside0.mk (rapp_f F n (by omega) L (by omega) HGD.out.symm l1 210000 (by omega) (by omega))
    rw [Int.toNat_natCast] at hxs
    rw [← hxs] at HRA
    have hxl : xs.length = n := by
      have hgd := HGD.out.symm
      have hg2 : goodR (n : Int) 0 (L.map toP) = true := by unfold goodD at hgd; rw [Bool.and_eq_true] at hgd; exact hgd.2
      rw [hxs, applyR_len n _ _ (goodR_mem n _ 0 hg2 (Int.le_refl 0)) (by rw [szL_len]), szL_len]
    have HXL := Aside0.mk hxl
    have hn4 : n ≤ 4096 := by omega
    have HFF := Aside0.mk hF
    have hF2 : ((l1.length : Int) == F) = true := beq_iff_eq.2 hF
    clear hF hxs hxl hT
    rw [errW_none]
    go_wp2_with fail
    refine (laminaref17_Apply.calls 210000 F n A2 c2 L A1 c1 l1 xs _ (Kd.C_below HG.out HB7.out) l2 (Kd.C_below HR1.out HB7.out) hc1 HRA.out).mono ?_
    rintro e w8 ⟨v8, rfl, ho8, hb8⟩
    obtain ⟨A8, c8, rfl, -⟩ := Kd.R_reads ho8
    have HC8 := Aside0.mk (Kd.R_reads' ho8)
    have HO8 := Aside0.mk (Kd.R_below HO7.out hb8)
    have HR8 := Aside0.mk (Kd.R_below HR7.out hb8)
    have HB8 := Aside0.mk (below_step HB7.out hb8)
    have HCO := Aside0.mk (Kd.R_reads' HO8.out)
    clear ho8 hb8
    go_wp2_with fail
    refine (laminanum_Same.calls A5 c5 xs A8 c8 xs true _ HCO.out.2.2 HCO.out.2.1 HC8.out.2.2 HC8.out.2.1 (same_refl xs)).mono ?_
    rintro e w9 ⟨rfl, ⟨n9, rfl⟩⟩
    have HAPA : ∀ n : Nat, Calls Try.prog 18 #[.slice (some ⟨w8.heap.size, 0, none⟩) 2 2] ((w8.drewN n).alloc (.cells #[.slice A5 xs.length c5, .slice (some ⟨g, 0, none⟩) l1.length cap] 25)) fun e w' => e = .returned (.bool true) ∧ Below w.heap.size ((w8.drewN n).alloc (.cells #[.slice A5 xs.length c5, .slice (some ⟨g, 0, none⟩) l1.length cap] 25)) w' := by
      intro m
      have hnf := HXL.out
      have hx : Ow w8 w.heap.size (.slice A5 xs.length c5) xs := R_Ow HO8.out
      have hc : Ow w8 w.heap.size (.slice (some ⟨g, 0, none⟩) l1.length cap) l1 := by
        have := Ow_take (R_Ow HR8.out) l1.length (by simp)
        rw [List.take_left] at this
        exact this
      refine laminanum_Apart.calls [.slice A5 xs.length c5, .slice (some ⟨g, 0, none⟩) l1.length cap] (fun i => if i = 0 then xs else l1) w8.heap.size 2 w.heap.size _ (heap_alloc_new (w8.drewN m) _) (by simp) (fun i => ?_) (fun i v hi => ?_) (pw_hd ?_) (Nat.le_trans HB8.out.size (by simp))
      · show (if i = 0 then xs else l1).length ≤ 100000
        split <;> omega
      · rcases i with _ | _ | i
        · simp at hi; subst hi; exact World.ownsRow.alloc (w := w8.drewN m) hx _
        · simp at hi; subst hi; exact World.ownsRow.alloc (w := w8.drewN m) hc _
        · simp at hi
      · have h4 := HX5.out
        have hg := HG3.out
        simp only [List.pairwise_cons, List.mem_cons, List.not_mem_nil, or_false, forall_eq_or_imp, forall_eq, List.Pairwise.nil, and_true, false_implies, implies_true]
        intro k hk hk2
        have := h4 k hk
        simp [Value.ownBlock] at hk2
        omega
    go_wp2_with fail
    refine (HAPA _).mono ?_
    rintro e w12 ⟨rfl, hb12⟩
    go_wp2
    go_ret
    exact ⟨rfl, ((pw_below_drewN HB8.out _).alloc HB8.out.size _).trans hb12⟩

end Go.Proofs.Ytdehifinipmmcaa.Hp
