/- Contracts of functions of the given program, and what they lean on: written by this session's own program, out of hand texts laid into the kit's printer. -/
import Derived.Test.YtdehifinipmmcaaHp0
import Derived.Test.YtdehifinipmmcaaHg1
import Derived.Test.YtdehifinipmmcaaHg2
import Derived.Test.YtdehifinipmmcaaHg3
import Derived.Test.YtdehifinipmmcaaHg4
import Derived.Test.YtdehifinipmmcaaHg5
namespace Go.Proofs.Ytdehifinipmmcaa.Hp
open Go.RowKit Go.Proofs.YtdehifinipmmcaaW.PrintWords Go.Proofs.YtdehifinipmmcaaW.PrintLast Go.Proofs.YtdehifinipmmcaaW.PrintMore
attribute [local go_sem] max2_int min2_int max_two min_two max_three min_three max_four min_four   -- for this text's walks alone
set_option linter.unusedVariables false
set_option linter.unusedSimpArgs false

/-! ### laminalaw17_DiffBetween: function 4 -/
theorem V_of_S {α : Type} {d : Kd α} {e : Nat} {w : World} {base base' : Nat} {ok : Nat → Prop} {A : Option Addr} {n c : Nat} {xs : List α} (h : Kd.S d e w base ok (.slice A n c) xs) : Kd.V d e w base' ok (.slice A xs.length c) xs := by
  obtain ⟨hn, hc, -⟩ := Kd.R_reads' (Kd.S_R h)
  subst hn
  exact ⟨A, c, rfl, hc, fun W' hW => (Kd.R_reads' (Kd.S_R (Kd.S_step h hW))).2.2⟩
theorem S_only {α : Type} {d : Kd α} {e : Nat} {w w' : World} {base : Nat} {ok T : Nat → Prop} {v : Value} {xs : List α} (h : Kd.S d e w base ok v xs) (k : Only w w' T) (hd : ∀ i, ok i → ¬ T i) : Kd.S d e w' base ok v xs := Kd.S_step h (fun i ho hi => k.block i hi (hd i ho))
theorem rgood12_f (n o : Int) : laminaref12_Good.f n o = some (szB n o) := by
  unfold laminaref12_Good.f szB
  by_cases h1 : n ≥ 0
  · by_cases h2 : n ≤ 4096
    · rw [if_pos h1, if_pos h2]
      by_cases a1 : o = 16
      · simp [a1]; omega
      by_cases a2 : o = 32
      · simp [a2]; omega
      by_cases a3 : o = 64
      · simp [a3]; omega
      by_cases a4 : o = 128
      · simp [a4]; omega
      by_cases a5 : o = 256
      · simp [a5]; omega
      simp [a1, a2, a3, a4, a5]
    · rw [if_pos h1, if_neg h2, decide_eq_false]; omega
  · rw [if_neg h1, decide_eq_false]; omega
set_option maxRecDepth 100000 in
set_option maxHeartbeats 8000000 in
theorem laminalaw17_DiffBetween.law (A0 : Option Addr) (c0 : Nat) (l0 : List Int) (A1 : Option Addr) (c1 : Nat) (l1 : List Int) (o : Int) (w : World) (hr0 : Kd.C (Kd.int .u8) w A0 l0.length l0) (hc0 : l0.length ≤ c0) (_hy0 : l0.length * 1 ≤ 140737488351232) (hw0 : ∀ n ∈ l0, (Lit.int .u8 n).wf = true)
    (hr1 : Kd.C (Kd.int .u8) w A1 l1.length l1) (hc1 : l1.length ≤ c1) (_hy1 : l1.length * 1 ≤ 140737488351232) (hw1 : ∀ n ∈ l1, (Lit.int .u8 n).wf = true) (_hw2 : (Lit.int .i64 o).wf = true) :
    Calls Try.prog 4 #[.slice A0 l0.length c0, .slice A1 l1.length c1, .int .i64 o] w fun e w' => e = .returned (.bool true) ∧ Below w.heap.size w w' := by
  have HR0 := Aside0.mk hr0
  have HR1 := Aside0.mk hr1
  have HBY := Aside0.mk (And.intro (wfs_u8 hw0) (wfs_u8 hw1))
  have HAL := fun W => laminalaw17_alive.calls W
  have hm0 := hr0.2.1
  have hm1 := hr1.2.1
  clear hr0 hr1 hw0 hw1 _hy0 _hy1
  by_cases hbig0 : (l0.length : Int) > 6000
  · go_enter Try.func4, Try.ntmps4
    go_wp2_with fail
    refine (HAL _).mono ?_
    rintro e w1 ⟨rfl, hb⟩
    go_wp2
    go_ret
    exact ⟨rfl, hb⟩
  by_cases hbig1 : (l1.length : Int) > 6000
  · go_enter Try.func4, Try.ntmps4
    go_wp2_with fail
    refine (HAL _).mono ?_
    rintro e w1 ⟨rfl, hb⟩
    go_wp2
    go_ret
    exact ⟨rfl, hb⟩
  have h0 : l0.length ≤ 6000 := by omega
  have h1 : l1.length ≤ 6000 := by omega
  have hcase : ((l0.length : Int) > 4096 ∧ btwO l0 l1 o = (0, 0, [], some 1)) ∨ (¬ (l0.length : Int) > 4096 ∧ szB l1.length o = false ∧ btwO l0 l1 o = (0, 0, [], some 1)) ∨ (¬ (l0.length : Int) > 4096 ∧ szB l1.length o = true ∧ btwO l0 l1 o = ((l0.length : Int), (l1.length : Int), btwL (szL l0 l1.length) l1 o.toNat (pcN l1.length o.toNat), none)) := by
    unfold btwO
    by_cases ha : (l0.length : Int) > 4096
    · exact .inl ⟨ha, if_neg (by omega)⟩
    · cases hs : szB l1.length o
      · exact .inr (.inl ⟨ha, rfl, if_neg (by simp)⟩)
      · exact .inr (.inr ⟨ha, rfl, if_pos ⟨rfl, by omega⟩⟩)
  have HCS := Aside0.mk hcase
  have HBT := fun (A : Option Addr) (c : Nat) (A' : Option Addr) (c' : Nat) W h0 h1 h2 h3 h4 h5 => diff_Between.calls A c l0 A' c' l1 o W h0 h1 h2 h3 h4 h5
  clear hcase hbig0 hbig1
  generalize btwO l0 l1 o = q at *
  obtain ⟨q1, q2, q3, q4⟩ := q
  simp only [Prod.mk.injEq] at HBT HCS
  go_enter Try.func4, Try.ntmps4
  go_wp2_with fail
  refine (HAL _).mono ?_
  rintro e w1 ⟨rfl, hb1⟩
  have HB1 := Aside0.mk hb1
  clear hb1 HAL
  go_wp2_with fail
  refine (laminanum_Copy.calls A0 c0 l0 _ (Kd.C_below HR0.out HB1.out) (by omega)).mono ?_
  rintro e w2 ⟨g, cap, rfl, hg, hR2, hb2⟩
  have HB2 := Aside0.mk (below_step HB1.out hb2)
  go_wp2_with fail
  refine (laminanum_Copy.calls A1 c1 l1 _ (Kd.C_below HR1.out HB2.out) (by omega)).mono ?_
  rintro e w3 ⟨g', cap', rfl, hg', hR3, hb3⟩
  have HG := Aside0.mk (show g' < w3.heap.size from Kd.R_lt hR3 g' rfl)
  have HGB := Aside0.mk (show w.heap.size ≤ g' from Nat.le_trans HB2.out.size hg')
  have HR2 := Aside0.mk (Kd.R_below (Kd.R_lower hR2 HB1.out.size) hb3)
  have HR3 := Aside0.mk (Kd.R_lower hR3 HB2.out.size)
  have HB3 := Aside0.mk (below_step HB2.out hb3)
  obtain ⟨hC2, hcap⟩ := Kp_C HR2.out
  obtain ⟨hC3, hcap'⟩ := Kp_C HR3.out
  have HC2 := Aside0.mk hC2
  have HC3 := Aside0.mk hC3
  clear hR2 hb2 hC2 hg hR3 hb3 hC3 hg'
  go_wp2_with fail
  refine (HBT (some ⟨g, 0, none⟩) cap (some ⟨g', 0, none⟩) cap' _ HC2.out (by omega) HC3.out (by omega) (by omega) (by omega)).mono ?_
  rintro e w4 ⟨v4, rfl, hs4, hb4⟩
  obtain ⟨A4, c4, rfl⟩ := Kd.S_slice hs4
  have HS4 := Aside0.mk (Kd.S_mono (Kd.S_bound hs4) (ok' := fun k => w3.heap.size ≤ k ∧ k < w4.heap.size) (fun _ hk => ⟨hk.2.1, hk.2.2.1⟩))
  have HR24 := Aside0.mk (Kd.R_below HR2.out hb4)
  have HR34 := Aside0.mk (Kd.R_below HR3.out hb4)
  have HB4 := Aside0.mk (below_step HB3.out hb4)
  have h34 := hb4.size
  clear hs4 hb4 HBT HR2 HR3 HC2 HC3
  go_wp2_with fail
  have hD := blk_new w4 (.cells #[.int .i64 q1, .int .i64 q2, .slice A4 q3.length c4] 35)
  have hBD := below_alloc HB4.out (.cells #[.int .i64 q1, .int .i64 q2, .slice A4 q3.length c4] 35)
  have HR25 := Aside0.mk (Kd.R_alloc HR24.out (.cells #[.int .i64 q1, .int .i64 q2, .slice A4 q3.length c4] 35))
  have HR35 := Aside0.mk (Kd.R_alloc HR34.out (.cells #[.int .i64 q1, .int .i64 q2, .slice A4 q3.length c4] 35))
  have HS5 := Aside0.mk (Kd.S_alloc HS4.out (.cells #[.int .i64 q1, .int .i64 q2, .slice A4 q3.length c4] 35))
  refine (laminanum_Kept.calls g cap _ _ A0 c0 l0 _ HR25.out (Kd.C_below HR0.out hBD) (by omega)).mono ?_
  rintro e w6 ⟨rfl, ⟨n6, rfl⟩⟩
  have HD5 := Aside0.mk hD
  have HB5 := Aside0.mk hBD
  have hs5 : w4.heap.size < (w4.alloc (.cells #[.int .i64 q1, .int .i64 q2, .slice A4 q3.length c4] 35)).heap.size := by simp
  clear hD hBD HR24 HR34 HS4
  generalize hw5 : (w4.alloc (.cells #[.int .i64 q1, .int .i64 q2, .slice A4 q3.length c4] 35)) = w5 at *
  clear hw5
  go_wp2_with fail
  refine (laminanum_Kept.calls g' cap' _ _ A1 c1 l1 _ (Kd.R_drewN HR35.out _) (Kd.C_drewN (Kd.C_below HR1.out HB5.out) _) (by omega)).mono ?_
  rintro e w7 ⟨rfl, ⟨n7, rfl⟩⟩
  have hz0 : w5.cell? ⟨w4.heap.size, 0, none⟩ = some (.int .i64 q1) := (blk_cell HD5.out 0).trans rfl
  have hz1 : w5.cell? ⟨w4.heap.size, 1, none⟩ = some (.int .i64 q2) := (blk_cell HD5.out 1).trans rfl
  have hz2 : w5.cell? ⟨w4.heap.size, 2, none⟩ = some (.slice A4 q3.length c4) := (blk_cell HD5.out 2).trans rfl
  rcases HCS.out with ⟨ha, rfl, rfl, rfl, rfl⟩ | ⟨ha, hsz, rfl, rfl, rfl, rfl⟩ | ⟨ha, hsz, rfl, rfl, rfl, rfl⟩
  · go_wp2_with fail
    refine (laminanum_Is.calls (some 1) 1 true _ rfl).mono ?_
    rintro e w8 ⟨rfl, ⟨n8, rfl⟩⟩
    go_wp2
    go_ret
    exact ⟨rfl, pw_below_drewN HB5.out _⟩
  · go_wp2_with fail
    refine (laminaref12_Good.calls l1.length o false _ (by rw [rgood12_f, hsz])).mono ?_
    rintro e w8 ⟨rfl, ⟨n8, rfl⟩⟩
    go_wp2_with fail
    refine (laminanum_Is.calls (some 1) 1 true _ rfl).mono ?_
    rintro e w8 ⟨rfl, ⟨n8, rfl⟩⟩
    go_wp2
    go_ret
    exact ⟨rfl, pw_below_drewN HB5.out _⟩
  · have hs : 0 ≤ (l1.length : Int) ∧ (l1.length : Int) ≤ 4096 ∧ (o = 16 ∨ o = 32 ∨ o = 64 ∨ o = 128 ∨ o = 256) := by unfold szB at hsz; simpa using hsz
    obtain ⟨on, rfl⟩ := Int.eq_ofNat_of_zero_le (show 0 ≤ o by omega)
    simp only [Int.toNat_natCast] at *
    have hon : on = 16 ∨ on = 32 ∨ on = 64 ∨ on = 128 ∨ on = 256 := by omega
    have HGO := Aside0.mk (rgood12_f (l1.length : Int) (on : Int))
    rw [hsz] at HGO
    have HALL := Aside0.mk (btw_all l0 l1 on (by omega) (by omega) hon)
    have hql := Nat.le_trans (btwL_len (szL l0 l1.length) l1 on (pcN l1.length on)) (pcN_le l1.length on (by omega) hon)
    have HBG := fun W h0 h1 h2 h3 => laminaref17_Between.good A0 c0 l0 A1 c1 l1 on W h0 h1 h2 h3 (by omega) (by omega) hon HBY.out.1 HBY.out.2
    clear hsz hs hon
    generalize btwL (szL l0 l1.length) l1 on (pcN l1.length on) = R at *
    have HPL := Aside0.mk (plain_f l0.length l1.length R (by omega))
    rw [errW_none]
    go_wp2_with fail
    refine (laminaref12_Good.calls l1.length on true _ HGO.out).mono ?_
    rintro e w8 ⟨rfl, ⟨n8, rfl⟩⟩
    go_wp2_with fail
    have hRR := Kd.R_drewN HR35.out (n6 + n7 + n8)
    have hRbg : Rb (w5.drewN (n6 + n7 + n8)) (fun i => i = g') (some ⟨g', 0, none⟩) l1 := ⟨(Kp_C hRR).1, fun _ a ha => by cases ha; rfl⟩
    have hNfg : Nf (w5.drewN (n6 + n7 + n8)) (some ⟨g', 0, none⟩) l1 := fun _ a ha => by
      cases ha
      obtain ⟨g'', cap'', e', _, _, cells, hc'⟩ := Kd.R_form hRR (by simp)
      cases e'
      exact ⟨rfl, cells, hc'⟩
    refine (laminanum_Over.seg (fun i => i = g') (some ⟨g', 0, none⟩) cap' l1 _ hRbg hNfg).mono ?_
    rintro e w9 ⟨rfl, hsg⟩
    have og9 := hsg.only hRbg
    have hD9 := og9.same_block (blk_drewN HD5.out _) (by show ¬ w4.heap.size = g'; have := HG.out; omega)
    have HD9 := Aside0.mk hD9
    have HS9 := Aside0.mk (S_only (Kd.S_drewN HS5.out _) og9 (fun i hi h => by have := HG.out; omega))
    have HB9 := Aside0.mk ((pw_below_drewN HB5.out (n6 + n7 + n8)).trans (og9.below (B := w.heap.size) (fun i hi => by have := HGB.out; omega) HB5.out.size))
    clear hRR hRbg hNfg hsg og9 hD9 hz0 hz1 hz2 HD5 HS5 HR25 HR35
    have hz0 : w9.cell? ⟨w4.heap.size, 0, none⟩ = some (.int .i64 l0.length) := (blk_cell HD9.out 0).trans rfl
    have hz1 : w9.cell? ⟨w4.heap.size, 1, none⟩ = some (.int .i64 l1.length) := (blk_cell HD9.out 1).trans rfl
    have hz2 : w9.cell? ⟨w4.heap.size, 2, none⟩ = some (.slice A4 R.length c4) := (blk_cell HD9.out 2).trans rfl
    go_wp2_with fail
    refine (laminalaw17_plain.calls 5000 l0.length l1.length _ A4 c4 R l0.length l1.length (R.map toR) w9 (V_of_S HS9.out) HPL.out).mono ?_
    rintro e w10 ⟨v10, rfl, hn10, hb10⟩
    obtain ⟨A10, c10, rfl⟩ := Kd.N_slice hn10
    have HC10 := Aside0.mk (Kd.N_reads' hn10).2.2
    have HB10 := Aside0.mk (below_step HB9.out hb10)
    have HD10 := Aside0.mk (blk_below HD9.out hb10)
    have HS10 := Aside0.mk (Kd.S_below HS9.out hb10)
    clear hn10 hb10 hz0 hz1 hz2
    go_wp2_with fail
    refine (HBG _ (Kd.C_below HR0.out HB10.out) hc0 (Kd.C_below HR1.out HB10.out) hc1).mono ?_
    rintro e w11 ⟨v11, rfl, hs11, hb11⟩
    obtain ⟨A11, c11, rfl⟩ := Kd.S_slice hs11
    have HC11 := Aside0.mk (Kd.R_reads' (Kd.S_R hs11)).2.2
    have HB11 := Aside0.mk (below_step HB10.out hb11)
    have HD11 := Aside0.mk (blk_below HD10.out hb11)
    have HS11 := Aside0.mk (Kd.S_below HS10.out hb11)
    have HCP := Aside0.mk (Kd.C_below HC10.out hb11)
    clear hs11 hb11 HBG
    go_wp2_with fail
    have hsame := laminaref17_Same.same l0.length l1.length A10 c10 A11 c11 (R.map toR) w11 HCP.out HC11.out (by simp; omega)
    rw [List.length_map] at hsame
    refine hsame.mono ?_
    rintro e w12 ⟨rfl, hb12⟩
    have HB12 := Aside0.mk (below_step HB11.out hb12)
    have HD12 := Aside0.mk (blk_below HD11.out hb12)
    have HS12 := Aside0.mk (Kd.S_below HS11.out hb12)
    clear hsame hb12
    have hz0 : w12.cell? ⟨w4.heap.size, 0, none⟩ = some (.int .i64 l0.length) := (blk_cell HD12.out 0).trans rfl
    have hz1 : w12.cell? ⟨w4.heap.size, 1, none⟩ = some (.int .i64 l1.length) := (blk_cell HD12.out 1).trans rfl
    have hz2 : w12.cell? ⟨w4.heap.size, 2, none⟩ = some (.slice A4 R.length c4) := (blk_cell HD12.out 2).trans rfl
    have hap := diff_Apply.calls l0.length l1.length A4 c4 R A0 c0 l0 w12 (Kd.R_reads' (Kd.S_R HS12.out)).2.2 (Kd.R_reads' (Kd.S_R HS12.out)).2.1 (Kd.C_below HR0.out HB12.out) hc0 (by omega)
    rw [HALL.out] at hap
    simp only [errW_none] at hap
    have HAP := Aside0.mk hap
    clear hap
    go_wp2_with fail
    refine HAP.out.mono ?_
    rintro e w13 ⟨v13, rfl, ho13, hb13⟩
    obtain ⟨A13, c13, rfl, -⟩ := Kd.R_reads ho13
    have HO13 := Aside0.mk (Kd.R_reads' ho13)
    have HB13 := Aside0.mk (below_step HB12.out hb13)
    clear ho13 hb13 HAP hz0 hz1 hz2
    go_wp2_with fail
    refine (laminanum_Same.calls A13 c13 l1 A1 c1 l1 true _ HO13.out.2.2 HO13.out.2.1 (Kd.C_below HR1.out HB13.out) hc1 (same_refl l1)).mono ?_
    rintro e w14 ⟨rfl, ⟨n14, rfl⟩⟩
    go_wp2
    go_ret
    exact ⟨rfl, pw_below_drewN HB13.out _⟩

end Go.Proofs.Ytdehifinipmmcaa.Hp
