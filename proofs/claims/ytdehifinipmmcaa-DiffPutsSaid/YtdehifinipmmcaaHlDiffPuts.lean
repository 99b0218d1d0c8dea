/- Contracts of functions of the given program, and what they lean on: written by this session's own program, out of hand texts laid into the kit's printer. -/
import Derived.Test.YtdehifinipmmcaaHp0
import Derived.Deep.RegionWith
import Derived.Deep.DeepCutAuto
import Derived.Deep.CutBlock
import Derived.Test.YtdehifinipmmcaaHg1
import Derived.Test.YtdehifinipmmcaaHg2
import Derived.Test.YtdehifinipmmcaaHg3
import Derived.Test.YtdehifinipmmcaaHg4
import Derived.Test.YtdehifinipmmcaaHg5
import Derived.Test.YtdehifinipmmcaaHg6
import Derived.Test.YtdehifinipmmcaaHg8
import Derived.Test.YtdehifinipmmcaaHg9
import Derived.Test.YtdehifinipmmcaaHg10
import Derived.Test.YtdehifinipmmcaaHg11
import Derived.Test.YtdehifinipmmcaaHg12
import Derived.Test.YtdehifinipmmcaaHg13
import Derived.Test.YtdehifinipmmcaaHg14
import Derived.Test.YtdehifinipmmcaaHg15
import Derived.Test.YtdehifinipmmcaaHg16
import Derived.Test.YtdehifinipmmcaaHg17
namespace Go.Proofs.Ytdehifinipmmcaa.Hp
open Go.RowKit Go.Proofs.YtdehifinipmmcaaW.PrintWords Go.Proofs.YtdehifinipmmcaaW.PrintLast Go.Proofs.YtdehifinipmmcaaW.PrintMore
attribute [local go_sem] max2_int min2_int max_two min_two max_three min_three max_four min_four   -- for this text's walks alone
set_option linter.unusedVariables false
set_option linter.unusedSimpArgs false

/-! ### laminalaw17_DiffBetween: function 4 -/
theorem V_of_S {α : Type} {d : Kd α} {e : Nat} {w : World} {base base' : Nat} {ok : Nat → Prop} {A : Option Addr} {n c : Nat} {xs : List α} (h : Kd.S d e w base ok (.slice A n c) xs) : Kd.V d e w base' ok (.slice A xs.length c) xs := by
  obtain ⟨hn, hc, -⟩ := Kd.R_reads' (Kd.S_R h)
  subst hn
  exact ⟨A, c, rfl, hc, fun W' hW => (Kd.R_reads' (Kd.S_R (Kd.S_step h hW))).2.2⟩
theorem S_only {α : Type} {d : Kd α} {e : Nat} {w w' : World} {base : Nat} {ok T : Nat → Prop} {v : Value} {xs : List α} (h : Kd.S d e w base ok v xs) (k : Only w w' T) (hd : ∀ i, ok i → ¬ T i) : Kd.S d e w' base ok v xs := Kd.S_step h (fun i ho hi => k.block i hi (hd i ho))
theorem rgood12_f (n o : Int) : laminaref12_Good.f n o = some (szB n o) := by
  unfold laminaref12_Good.f szB
  by_cases h1 : n ≥ 0
  · by_cases h2 : n ≤ 4096
    · rw [if_pos h1, if_pos h2]
      by_cases a1 : o = 16
      · simp [a1]; omega
      by_cases a2 : o = 32
      · simp [a2]; omega
      by_cases a3 : o = 64
      · simp [a3]; omega
      by_cases a4 : o = 128
      · simp [a4]; omega
      by_cases a5 : o = 256
      · simp [a5]; omega
      simp [a1, a2, a3, a4, a5]
    · rw [if_pos h1, if_neg h2, decide_eq_false]; omega
  · rw [if_neg h1, decide_eq_false]; omega
set_option maxRecDepth 100000 in
set_option maxHeartbeats 8000000 in
theorem laminalaw17_DiffBetween.law (A0 : Option Addr) (c0 : Nat) (l0 : List Int) (A1 : Option Addr) (c1 : Nat) (l1 : List Int) (o : Int) (w : World) (hr0 : Kd.C (Kd.int .u8) w A0 l0.length l0) (hc0 : l0.length ≤ c0) (_hy0 : l0.length * 1 ≤ 140737488351232) (hw0 : ∀ n ∈ l0, (Lit.int .u8 n).wf = true)
    (hr1 : Kd.C (Kd.int .u8) w A1 l1.length l1) (hc1 : l1.length ≤ c1) (_hy1 : l1.length * 1 ≤ 140737488351232) (hw1 : ∀ n ∈ l1, (Lit.int .u8 n).wf = true) (_hw2 : (Lit.int .i64 o).wf = true) :
    Calls Try.prog 4 #[.slice A0 l0.length c0, .slice A1 l1.length c1, .int .i64 o] w fun e w' => e = .returned (.bool true) ∧ Below w.heap.size w w' := by
  have HR0 := Aside0.mk hr0
  have HR1 := Aside0.mk hr1
  have HBY := Aside0.mk (And.intro (wfs_u8 hw0) (wfs_u8 hw1))
  have HAL := fun W => laminalaw17_alive.calls W
  have hm0 := hr0.2.1
  have hm1 := hr1.2.1
  clear hr0 hr1 hw0 hw1 _hy0 _hy1
  by_cases hbig0 : (l0.length : Int) > 6000
  · go_enter Try.func4, Try.ntmps4
    go_wp2_with fail
    refine (HAL _).mono ?_
    rintro e w1 ⟨rfl, hb⟩
    go_wp2
    go_ret
    exact ⟨rfl, hb⟩
  by_cases hbig1 : (l1.length : Int) > 6000
  · go_enter Try.func4, Try.ntmps4
    go_wp2_with fail
    refine (HAL _).mono ?_
    rintro e w1 ⟨rfl, hb⟩
    go_wp2
    go_ret
    exact ⟨rfl, hb⟩
  have h0 : l0.length ≤ 6000 := by omega
  have h1 : l1.length ≤ 6000 := by omega
  have hcase : ((l0.length : Int) > 4096 ∧ btwO l0 l1 o = (0, 0, [], some 1)) ∨ (¬ (l0.length : Int) > 4096 ∧ szB l1.length o = false ∧ btwO l0 l1 o = (0, 0, [], some 1)) ∨ (¬ (l0.length : Int) > 4096 ∧ szB l1.length o = true ∧ btwO l0 l1 o = ((l0.length : Int), (l1.length : Int), btwL (szL l0 l1.length) l1 o.toNat (pcN l1.length o.toNat), none)) := by
    unfold btwO
    by_cases ha : (l0.length : Int) > 4096
    · exact .inl ⟨ha, if_neg (by omega)⟩
    · cases hs : szB l1.length o
      · exact .inr (.inl ⟨ha, rfl, if_neg (by simp)⟩)
      · exact .inr (.inr ⟨ha, rfl, if_pos ⟨rfl, by omega⟩⟩)
  have HCS := Aside0.mk hcase
  have HBT := fun (A : Option Addr) (c : Nat) (A' : Option Addr) (c' : Nat) W h0 h1 h2 h3 h4 h5 => diff_Between.calls A c l0 A' c' l1 o W h0 h1 h2 h3 h4 h5
  clear hcase hbig0 hbig1
  generalize btwO l0 l1 o = q at *
  obtain ⟨q1, q2, q3, q4⟩ := q
  simp only [Prod.mk.injEq] at HBT HCS
  go_enter Try.func4, Try.ntmps4
  go_wp2_with fail
  refine (HAL _).mono ?_
  rintro e w1 ⟨rfl, hb1⟩
  have HB1 := Aside0.mk hb1
  clear hb1 HAL
  go_wp2_with fail
  refine (laminanum_Copy.calls A0 c0 l0 _ (Kd.C_below HR0.out HB1.out) (by omega)).mono ?_
  rintro e w2 ⟨g, cap, rfl, hg, hR2, hb2⟩
  have HB2 := Aside0.mk (below_step HB1.out hb2)
  go_wp2_with fail
  refine (laminanum_Copy.calls A1 c1 l1 _ (Kd.C_below HR1.out HB2.out) (by omega)).mono ?_
  rintro e w3 ⟨g', cap', rfl, hg', hR3, hb3⟩
  have HG := Aside0.mk (show g' < w3.heap.size from Kd.R_lt hR3 g' rfl)
  have HGB := Aside0.mk (show w.heap.size ≤ g' from Nat.le_trans HB2.out.size hg')
  have HR2 := Aside0.mk (Kd.R_below (Kd.R_lower hR2 HB1.out.size) hb3)
  have HR3 := Aside0.mk (Kd.R_lower hR3 HB2.out.size)
  have HB3 := Aside0.mk (below_step HB2.out hb3)
  obtain ⟨hC2, hcap⟩ := Kp_C HR2.out
  obtain ⟨hC3, hcap'⟩ := Kp_C HR3.out
  have HC2 := Aside0.mk hC2
  have HC3 := Aside0.mk hC3
  clear hR2 hb2 hC2 hg hR3 hb3 hC3 hg'
  go_wp2_with fail
  refine (HBT (some ⟨g, 0, none⟩) cap (some ⟨g', 0, none⟩) cap' _ HC2.out (by omega) HC3.out (by omega) (by omega) (by omega)).mono ?_
  rintro e w4 ⟨v4, rfl, hs4, hb4⟩
  obtain ⟨A4, c4, rfl⟩ := Kd.S_slice hs4
  have HS4 := Aside0.mk (Kd.S_mono (Kd.S_bound hs4) (ok' := fun k => w3.heap.size ≤ k ∧ k < w4.heap.size) (fun _ hk => ⟨hk.2.1, hk.2.2.1⟩))
  have HR24 := Aside0.mk (Kd.R_below HR2.out hb4)
  have HR34 := Aside0.mk (Kd.R_below HR3.out hb4)
  have HB4 := Aside0.mk (below_step HB3.out hb4)
  have h34 := hb4.size
  clear hs4 hb4 HBT HR2 HR3 HC2 HC3
  go_wp2_with fail
  have hD := blk_new w4 (.cells #[.int .i64 q1, .int .i64 q2, .slice A4 q3.length c4] 35)
  have hBD := below_alloc HB4.out (.cells #[.int .i64 q1, .int .i64 q2, .slice A4 q3.length c4] 35)
  have HR25 := Aside0.mk (Kd.R_alloc HR24.out (.cells #[.int .i64 q1, .int .i64 q2, .slice A4 q3.length c4] 35))
  have HR35 := Aside0.mk (Kd.R_alloc HR34.out (.cells #[.int .i64 q1, .int .i64 q2, .slice A4 q3.length c4] 35))
  have HS5 := Aside0.mk (Kd.S_alloc HS4.out (.cells #[.int .i64 q1, .int .i64 q2, .slice A4 q3.length c4] 35))
  refine (laminanum_Kept.calls g cap _ _ A0 c0 l0 _ HR25.out (Kd.C_below HR0.out hBD) (by omega)).mono ?_
  rintro e w6 ⟨rfl, ⟨n6, rfl⟩⟩
  have HD5 := Aside0.mk hD
  have HB5 := Aside0.mk hBD
  have hs5 : w4.heap.size < (w4.alloc (.cells #[.int .i64 q1, .int .i64 q2, .slice A4 q3.length c4] 35)).heap.size := by simp
  clear hD hBD HR24 HR34 HS4
  generalize hw5 : (w4.alloc (.cells #[.int .i64 q1, .int .i64 q2, .slice A4 q3.length c4] 35)) = w5 at *
  clear hw5
  go_wp2_with fail
  refine (laminanum_Kept.calls g' cap' _ _ A1 c1 l1 _ (Kd.R_drewN HR35.out _) (Kd.C_drewN (Kd.C_below HR1.out HB5.out) _) (by omega)).mono ?_
  rintro e w7 ⟨rfl, ⟨n7, rfl⟩⟩
  have hz0 : w5.cell? ⟨w4.heap.size, 0, none⟩ = some (.int .i64 q1) := (blk_cell HD5.out 0).trans rfl
  have hz1 : w5.cell? ⟨w4.heap.size, 1, none⟩ = some (.int .i64 q2) := (blk_cell HD5.out 1).trans rfl
  have hz2 : w5.cell? ⟨w4.heap.size, 2, none⟩ = some (.slice A4 q3.length c4) := (blk_cell HD5.out 2).trans rfl
  rcases HCS.out with ⟨ha, rfl, rfl, rfl, rfl⟩ | ⟨ha, hsz, rfl, rfl, rfl, rfl⟩ | ⟨ha, hsz, rfl, rfl, rfl, rfl⟩
  · go_wp2_with fail
    refine (laminanum_Is.calls (some 1) 1 true _ rfl).mono ?_
    rintro e w8 ⟨rfl, ⟨n8, rfl⟩⟩
    go_wp2
    go_ret
    exact ⟨rfl, pw_below_drewN HB5.out _⟩
  · go_wp2_with fail
    refine (laminaref12_Good.calls l1.length o false _ (by rw [rgood12_f, hsz])).mono ?_
    rintro e w8 ⟨rfl, ⟨n8, rfl⟩⟩
    go_wp2_with fail
    refine (laminanum_Is.calls (some 1) 1 true _ rfl).mono ?_
    rintro e w8 ⟨rfl, ⟨n8, rfl⟩⟩
    go_wp2
    go_ret
    exact ⟨rfl, pw_below_drewN HB5.out _⟩
  · have hs : 0 ≤ (l1.length : Int) ∧ (l1.length : Int) ≤ 4096 ∧ (o = 16 ∨ o = 32 ∨ o = 64 ∨ o = 128 ∨ o = 256) := by unfold szB at hsz; simpa using hsz
    obtain ⟨on, rfl⟩ := Int.eq_ofNat_of_zero_le (show 0 ≤ o by omega)
    simp only [Int.toNat_natCast] at *
    have hon : on = 16 ∨ on = 32 ∨ on = 64 ∨ on = 128 ∨ on = 256 := by omega
    have HGO := Aside0.mk (rgood12_f (l1.length : Int) (on : Int))
    rw [hsz] at HGO
    have HALL := Aside0.mk (btw_all l0 l1 on (by omega) (by omega) hon)
    have hql := Nat.le_trans (btwL_len (szL l0 l1.length) l1 on (pcN l1.length on)) (pcN_le l1.length on (by omega) hon)
    have HBG := fun W h0 h1 h2 h3 => laminaref17_Between.good A0 c0 l0 A1 c1 l1 on W h0 h1 h2 h3 (by omega) (by omega) hon HBY.out.1 HBY.out.2
    clear hsz hs hon
    generalize btwL (szL l0 l1.length) l1 on (pcN l1.length on) = R at *
    have HPL := Aside0.mk (plain_f l0.length l1.length R (by omega))
    rw [errW_none]
    go_wp2_with fail
    refine (laminaref12_Good.calls l1.length on true _ HGO.out).mono ?_
    rintro e w8 ⟨rfl, ⟨n8, rfl⟩⟩
    go_wp2_with fail
    have hRR := Kd.R_drewN HR35.out (n6 + n7 + n8)
    have hRbg : Rb (w5.drewN (n6 + n7 + n8)) (fun i => i = g') (some ⟨g', 0, none⟩) l1 := ⟨(Kp_C hRR).1, fun _ a ha => by cases ha; rfl⟩
    have hNfg : Nf (w5.drewN (n6 + n7 + n8)) (some ⟨g', 0, none⟩) l1 := fun _ a ha => by
      cases ha
      obtain ⟨g'', cap'', e', _, _, cells, hc'⟩ := Kd.R_form hRR (by simp)
      cases e'
      exact ⟨rfl, cells, hc'⟩
    refine (laminanum_Over.seg (fun i => i = g') (some ⟨g', 0, none⟩) cap' l1 _ hRbg hNfg).mono ?_
    rintro e w9 ⟨rfl, hsg⟩
    have og9 := hsg.only hRbg
    have hD9 := og9.same_block (blk_drewN HD5.out _) (by show ¬ w4.heap.size = g'; have := HG.out; omega)
    have HD9 := Aside0.mk hD9
    have HS9 := Aside0.mk (S_only (Kd.S_drewN HS5.out _) og9 (fun i hi h => by have := HG.out; omega))
    have HB9 := Aside0.mk ((pw_below_drewN HB5.out (n6 + n7 + n8)).trans (og9.below (B := w.heap.size) (fun i hi => by have := HGB.out; omega) HB5.out.size))
    clear hRR hRbg hNfg hsg og9 hD9 hz0 hz1 hz2 HD5 HS5 HR25 HR35
    have hz0 : w9.cell? ⟨w4.heap.size, 0, none⟩ = some (.int .i64 l0.length) := (blk_cell HD9.out 0).trans rfl
    have hz1 : w9.cell? ⟨w4.heap.size, 1, none⟩ = some (.int .i64 l1.length) := (blk_cell HD9.out 1).trans rfl
    have hz2 : w9.cell? ⟨w4.heap.size, 2, none⟩ = some (.slice A4 R.length c4) := (blk_cell HD9.out 2).trans rfl
    go_wp2_with fail
    refine (laminalaw17_plain.calls 5000 l0.length l1.length _ A4 c4 R l0.length l1.length (R.map toR) w9 (V_of_S HS9.out) HPL.out).mono ?_
    rintro e w10 ⟨v10, rfl, hn10, hb10⟩
    obtain ⟨A10, c10, rfl⟩ := Kd.N_slice hn10
    have HC10 := Aside0.mk (Kd.N_reads' hn10).2.2
    have HB10 := Aside0.mk (below_step HB9.out hb10)
    have HD10 := Aside0.mk (blk_below HD9.out hb10)
    have HS10 := Aside0.mk (Kd.S_below HS9.out hb10)
    clear hn10 hb10 hz0 hz1 hz2
    go_wp2_with fail
    refine (HBG _ (Kd.C_below HR0.out HB10.out) hc0 (Kd.C_below HR1.out HB10.out) hc1).mono ?_
    rintro e w11 ⟨v11, rfl, hs11, hb11⟩
    obtain ⟨A11, c11, rfl⟩ := Kd.S_slice hs11
    have HC11 := Aside0.mk (Kd.R_reads' (Kd.S_R hs11)).2.2
    have HB11 := Aside0.mk (below_step HB10.out hb11)
    have HD11 := Aside0.mk (blk_below HD10.out hb11)
    have HS11 := Aside0.mk (Kd.S_below HS10.out hb11)
    have HCP := Aside0.mk (Kd.C_below HC10.out hb11)
    clear hs11 hb11 HBG
    go_wp2_with fail
    have hsame := laminaref17_Same.same l0.length l1.length A10 c10 A11 c11 (R.map toR) w11 HCP.out HC11.out (by simp; omega)
    rw [List.length_map] at hsame
    refine hsame.mono ?_
    rintro e w12 ⟨rfl, hb12⟩
    have HB12 := Aside0.mk (below_step HB11.out hb12)
    have HD12 := Aside0.mk (blk_below HD11.out hb12)
    have HS12 := Aside0.mk (Kd.S_below HS11.out hb12)
    clear hsame hb12
    have hz0 : w12.cell? ⟨w4.heap.size, 0, none⟩ = some (.int .i64 l0.length) := (blk_cell HD12.out 0).trans rfl
    have hz1 : w12.cell? ⟨w4.heap.size, 1, none⟩ = some (.int .i64 l1.length) := (blk_cell HD12.out 1).trans rfl
    have hz2 : w12.cell? ⟨w4.heap.size, 2, none⟩ = some (.slice A4 R.length c4) := (blk_cell HD12.out 2).trans rfl
    have hap := diff_Apply.calls l0.length l1.length A4 c4 R A0 c0 l0 w12 (Kd.R_reads' (Kd.S_R HS12.out)).2.2 (Kd.R_reads' (Kd.S_R HS12.out)).2.1 (Kd.C_below HR0.out HB12.out) hc0 (by omega)
    rw [HALL.out] at hap
    simp only [errW_none] at hap
    have HAP := Aside0.mk hap
    clear hap
    go_wp2_with fail
    refine HAP.out.mono ?_
    rintro e w13 ⟨v13, rfl, ho13, hb13⟩
    obtain ⟨A13, c13, rfl, -⟩ := Kd.R_reads ho13
    have HO13 := Aside0.mk (Kd.R_reads' ho13)
    have HB13 := Aside0.mk (below_step HB12.out hb13)
    clear ho13 hb13 HAP hz0 hz1 hz2
    go_wp2_with fail
    refine (laminanum_Same.calls A13 c13 l1 A1 c1 l1 true _ HO13.out.2.2 HO13.out.2.1 (Kd.C_below HR1.out HB13.out) hc1 (same_refl l1)).mono ?_
    rintro e w14 ⟨rfl, ⟨n14, rfl⟩⟩
    go_wp2
    go_ret
    exact ⟨rfl, pw_below_drewN HB13.out _⟩

/-! ### laminalaw17_DiffTakes: function 7 -/
theorem RowsOk.step {W W' : World} {S : Nat → Prop} {rows : List (List Value)} {rs : List S61} (h : RowsOk W S rows rs) (hm : ∀ k, S k → k < W.heap.size → W'.heap[k]? = W.heap[k]?) : RowsOk W' S rows rs :=
  ⟨h.1, fun j r hj => by
    obtain ⟨A, c, h1, h2, h3, h4⟩ := h.2 j r hj
    refine ⟨A, c, h1, h2, ⟨C_cells_mono h3.row (fun ad i he hi => ?_), h3.blk⟩, fun hp a ha => ?_⟩
    · exact cell_same (hm _ (h3.blk (by omega) ad he) (h3.lt (by omega) ad he)) _ (add_blk ad i)
    · obtain ⟨hs, cs, hc⟩ := h4 hp a ha
      exact ⟨hs, cs, (hm _ (h3.blk hp a ha) (blk_size hc)).trans hc⟩⟩
theorem V_of_rows {W : World} {B base n c : Nat} {S : Nat → Prop} {A : Option Addr} {rows : List (List Value)} {rs : List S61} (hR : (Kd.raw 4).R 61 W B (fun k => B ≤ k ∧ ¬ S k) (.slice A n c) rows) (hok : RowsOk W S rows rs) (hS : ∀ i, S i → B ≤ i) :
    Kd.V k61 61 W base (fun k => B ≤ k) (.slice A rs.length c) rs := by
  obtain ⟨hn, hc, -⟩ := Kd.R_reads' hR
  have h1 := hok.1
  exact ⟨A, c, rfl, by omega, fun W' hW => C_of_rows (Kd.R_reads' (Kd.R_step hR (fun k hk hl => hW k hk.1 hl))).2.2 (hok.step (fun k hk hl => hW k (hS k hk) hl))⟩
theorem take_same {F T F' T' : Int} {l l' : List S61} {b : List Int} (h : goodD F T l = true) (h' : goodD F' T' l' = true) (e : putL F T l = b) (e' : putL F' T' l' = b) : F = F' ∧ T = T' ∧ l = l' := by
  obtain ⟨-, a1, a2, a3, -, -⟩ := read_back h
  obtain ⟨-, b1, b2, b3, -, -⟩ := read_back h'
  have hl := (read_all h).2
  have hl' := (read_all h').2
  rw [e] at a1 a2 a3 hl
  rw [e'] at b1 b2 b3 hl'
  have hn : l.length = l'.length := by rw [a3] at b3; omega
  exact ⟨a1.symm.trans b1, a2.symm.trans b2, by rw [← hl, ← hl', hn]⟩
theorem TakeP.slice {w w' : World} {b : List Int} {F T : Int} {l : List S61} {v : Value} {er : Option Int} (h : TakeP w w' b F T l v er) : ∃ A c, v = .slice A l.length c := by
  rcases h with ⟨_, hy⟩ | ⟨_, _, _, rfl, rfl, _⟩
  · obtain ⟨rows, S, hr, ok, _⟩ := hy.rows
    obtain ⟨A, c, rfl, -⟩ := Kd.R_reads hr
    exact ⟨A, c, by rw [ok.1]⟩
  · exact ⟨none, 0, rfl⟩
theorem RTakeP.slice {w w' : World} {b : List Int} {F T : Int} {l : List S61} {v : Value} {ok : Bool} (h : RTakeP w w' b F T l v ok) : ∃ A c, v = .slice A l.length c := by
  rcases h with ⟨_, _, _, hs⟩ | ⟨_, _, _, rfl, rfl, _⟩
  · obtain ⟨A, c, rfl⟩ := Kd.S_slice hs
    exact ⟨A, c, by rw [List.length_map]⟩
  · exact ⟨none, 0, rfl⟩
theorem C_nilR (w : World) : Kd.C k65 w none 0 [] := Kd.C_nil _ _
set_option maxRecDepth 100000 in
set_option maxHeartbeats 8000000 in
theorem laminalaw17_DiffTakes.law (A0 : Option Addr) (c0 : Nat) (l0 : List Int) (w : World) (hr0 : Kd.C (Kd.int .u8) w A0 l0.length l0) (hc0 : l0.length ≤ c0) (_hy0 : l0.length * 1 ≤ 140737488351232) (hw0 : ∀ n ∈ l0, (Lit.int .u8 n).wf = true) :
    Calls Try.prog 7 #[.slice A0 l0.length c0] w fun e w' => e = .returned (.bool true) ∧ Below w.heap.size w w' := by
  have HR0 := Aside0.mk hr0
  have HBY := Aside0.mk (wfs_u8 hw0)
  have HAL := fun W => laminalaw17_alive.calls W
  have hm0 := hr0.2.1
  clear hr0 hw0 _hy0
  by_cases hbig0 : (l0.length : Int) > 5000
  · go_enter Try.func7, Try.ntmps7
    go_wp2_with fail
    refine (HAL _).mono ?_
    rintro e w1 ⟨rfl, hb⟩
    go_wp2
    go_ret
    exact ⟨rfl, hb⟩
  have h0 : l0.length ≤ 5000 := by omega
  clear hbig0
  go_enter Try.func7, Try.ntmps7
  go_wp2_with fail
  refine (HAL _).mono ?_
  rintro e w1 ⟨rfl, hb1⟩
  have HB1 := Aside0.mk hb1
  clear hb1 HAL
  go_wp2_with fail
  refine (laminanum_Copy.calls A0 c0 l0 _ (Kd.C_below HR0.out HB1.out) (by omega)).mono ?_
  rintro e w2 ⟨g, cap, rfl, hg, hR2, hb2⟩
  have hg2 : g < w2.heap.size := Kd.R_lt hR2 g rfl
  have hgw : w.heap.size ≤ g := Nat.le_trans HB1.out.size hg
  have HR2 := Aside0.mk (Kd.R_lower hR2 HB1.out.size)
  have HB2 := Aside0.mk (below_step HB1.out hb2)
  obtain ⟨hC2, hcap⟩ := Kp_C HR2.out
  have HC2 := Aside0.mk hC2
  clear hR2 hb2 hC2 hg
  go_wp2_with fail
  refine (diff_Take.calls (some ⟨g, 0, none⟩) cap l0 _ HC2.out (by omega) HBY.out (by omega)).mono ?_
  rintro e w3 ⟨F, T, l, v, er, rfl, htp, hb3⟩
  obtain ⟨Av, cv, rfl⟩ := htp.slice
  have HTP := Aside0.mk htp
  have HR3 := Aside0.mk (Kd.R_below HR2.out hb3)
  have HB3 := Aside0.mk (below_step HB2.out hb3)
  have h23 := hb3.size
  clear htp hb3 HC2 HR2
  go_wp2_with fail
  have HD4 := Aside0.mk (blk_new w3 (.cells #[.int .i64 F, .int .i64 T, .slice Av l.length cv] 35))
  have hb4 := below_alloc (Below.refl w3.heap.size w3) (.cells #[.int .i64 F, .int .i64 T, .slice Av l.length cv] 35)
  have HR4 := Aside0.mk (Kd.R_below HR3.out hb4)
  have HB4 := Aside0.mk (below_step HB3.out hb4)
  have h34 : w3.heap.size < (w3.alloc (.cells #[.int .i64 F, .int .i64 T, .slice Av l.length cv] 35)).heap.size := by simp
  have HO4 := Aside0.mk hb4
  clear HR3 HB3 hb4
  generalize hW : w3.alloc (.cells #[.int .i64 F, .int .i64 T, .slice Av l.length cv] 35) = w4 at *
  clear hW
  refine (laminaref17_Take.calls A0 c0 l0 _ (Kd.C_below HR0.out HB4.out) hc0 HBY.out (by omega)).mono ?_
  rintro e w5 ⟨F', T', l', v', ok, rfl, hrp, hb5⟩
  obtain ⟨Aw, cw, rfl⟩ := hrp.slice
  have HRP := Aside0.mk hrp
  have HD5 := Aside0.mk (blk_below HD4.out hb5)
  have HR5 := Aside0.mk (Kd.R_below HR4.out hb5)
  have HB5 := Aside0.mk (below_step HB4.out hb5)
  have HO5 := Aside0.mk (below_step HO4.out hb5)
  have h45 := hb5.size
  clear hrp hb5 HD4 HR4 HB4 HO4
  go_wp2_with fail
  have HE6 := Aside0.mk (blk_new w5 (.cells #[.int .i64 F', .int .i64 T', .slice Aw l'.length cw] 24))
  have hb6 := below_alloc (Below.refl w5.heap.size w5) (.cells #[.int .i64 F', .int .i64 T', .slice Aw l'.length cw] 24)
  have HD6 := Aside0.mk (blk_below HD5.out hb6)
  have HR6 := Aside0.mk (Kd.R_below HR5.out hb6)
  have HB6 := Aside0.mk (below_step HB5.out hb6)
  have HO6 := Aside0.mk (below_step HO5.out hb6)
  have HP6 := Aside0.mk hb6
  have h56 : w5.heap.size < (w5.alloc (.cells #[.int .i64 F', .int .i64 T', .slice Aw l'.length cw] 24)).heap.size := by simp
  clear HD5 HR5 HB5 HO5 hb6
  generalize hW : w5.alloc (.cells #[.int .i64 F', .int .i64 T', .slice Aw l'.length cw] 24) = w6 at *
  clear hW
  refine (laminanum_Kept.calls g cap _ _ A0 c0 l0 _ HR6.out (Kd.C_below HR0.out HB6.out) (by omega)).mono ?_
  rintro e w7 ⟨rfl, ⟨n7, rfl⟩⟩
  go_wp2_with fail
  have hRR := Kd.R_drewN HR6.out n7
  have hRbg : Rb (w6.drewN n7) (fun i => i = g) (some ⟨g, 0, none⟩) l0 := ⟨(Kp_C hRR).1, fun _ a ha => by cases ha; rfl⟩
  have hNfg : Nf (w6.drewN n7) (some ⟨g, 0, none⟩) l0 := fun _ a ha => by
    cases ha
    obtain ⟨g'', cap'', e', _, _, cells, hc'⟩ := Kd.R_form hRR (by simp)
    cases e'
    exact ⟨rfl, cells, hc'⟩
  refine (laminanum_Over.seg (fun i => i = g) (some ⟨g, 0, none⟩) cap l0 _ hRbg hNfg).mono ?_
  rintro e w8 ⟨rfl, hsg⟩
  have og := (((Only.refl w6 (fun i => i = g)).drewN n7).same (hsg.only hRbg))
  have HOG := Aside0.mk og
  have HD8 := Aside0.mk (og.same_block HD6.out (by show ¬ w3.heap.size = g; omega))
  have HE8 := Aside0.mk (og.same_block HE6.out (by show ¬ w5.heap.size = g; omega))
  have HB8 := Aside0.mk (HB6.out.trans (og.below (B := w.heap.size) (fun i hi => by omega) HB6.out.size))
  have h68 := og.size
  clear hRR hRbg hNfg hsg og HR6 HD6 HE6 HB6
  have hz0 : w8.cell? ⟨w3.heap.size, 0, none⟩ = some (.int .i64 F) := (blk_cell HD8.out 0).trans rfl
  have hz1 : w8.cell? ⟨w3.heap.size, 1, none⟩ = some (.int .i64 T) := (blk_cell HD8.out 1).trans rfl
  have hz2 : w8.cell? ⟨w3.heap.size, 2, none⟩ = some (.slice Av l.length cv) := (blk_cell HD8.out 2).trans rfl
  have hy0 : w8.cell? ⟨w5.heap.size, 0, none⟩ = some (.int .i64 F') := (blk_cell HE8.out 0).trans rfl
  have hy1 : w8.cell? ⟨w5.heap.size, 1, none⟩ = some (.int .i64 T') := (blk_cell HE8.out 1).trans rfl
  have hy2 : w8.cell? ⟨w5.heap.size, 2, none⟩ = some (.slice Aw l'.length cw) := (blk_cell HE8.out 2).trans rfl
  have hcase : (er = none ∧ ok = true ∧ F = F' ∧ T = T' ∧ l = l' ∧ goodD F T l = true ∧ TakeYes w2 w3 l0 F T l (.slice Av l.length cv) ∧ Kd.S k65 65 w5 w4.heap.size (fun _ => True) (.slice Aw l'.length cw) (l'.map toR)) ∨ (er = some 2 ∧ ok = false ∧ F = 0 ∧ T = 0 ∧ F' = 0 ∧ T' = 0 ∧ l = [] ∧ l' = []) := by
    rcases HTP.out with ⟨rfl, hy⟩ | ⟨rfl, rfl, rfl, rfl, hv, hno⟩
    · rcases HRP.out with ⟨rfl, hg, hp, hs⟩ | ⟨rfl, rfl, rfl, rfl, hv', hno⟩
      · obtain ⟨e1, e2, e3⟩ := take_same hy.good hg hy.put hp
        exact .inl ⟨rfl, rfl, e1, e2, e3, hy.good, hy, hs⟩
      · exact absurd ⟨_, _, _, hy.good, hy.put⟩ hno
    · rcases HRP.out with ⟨rfl, hg, hp, hs⟩ | ⟨rfl, rfl, rfl, rfl, hv', hno'⟩
      · exact absurd ⟨_, _, _, hg, hp⟩ hno
      · exact .inr ⟨rfl, rfl, rfl, rfl, rfl, rfl, rfl, rfl⟩
  clear HTP HRP
  rcases hcase with ⟨rfl, rfl, rfl, rfl, rfl, hgd, hty, hs5⟩ | ⟨rfl, rfl, rfl, rfl, rfl, rfl, rfl, rfl⟩
  · obtain ⟨rows, S, hrw, hok, hS⟩ := hty.rows
    have hll := (good_recs hgd).2.1
    have hO : Only w3 w8 (fun i => i = g) := (Only.of_below HO6.out _).same HOG.out
    have hrw8 := R_only (Kd.R_mono hrw (ok' := fun k => w2.heap.size ≤ k ∧ ¬ S k) (fun k hk => hk)) hO (fun i hi h => by omega)
    have hok8 := hok.only hO (fun i hi h => by have := hS i hi; omega)
    have HV := Aside0.mk (fun n => V_of_rows (base := (w8.drewN n).heap.size) (Kd.R_drewN hrw8 n) (hok8.only ((Only.refl w8 (fun _ => False)).drewN n) (fun _ _ h => h)) hS)
    have hs8 := S_only2 (Kd.S_below (Kd.S_mono (Kd.S_bound hs5) (ok' := fun i => True ∧ w4.heap.size ≤ i) (fun i hi => ⟨trivial, hi.2.1⟩)) HP6.out) HOG.out (fun i hi h => by have := hi.2; omega)
    have HS8 := Aside0.mk (Kd.R_reads' (Kd.S_R hs8)).2.2
    have HPL := Aside0.mk (plain_f F T l (by omega))
    clear hrw hok hS hs5 hO hrw8 hok8 hs8 hty hgd
    have HVd := Aside0.mk (Kd.V_drew (HV.out 0))
    have HEd := Aside0.mk (blk_drew HE8.out)
    have HSd := Aside0.mk (Kd.C_drew HS8.out)
    have HBd := Aside0.mk (below_drew HB8.out)
    rw [errW_none]
    go_wp2_with fail
    first | (go_region_with (first
      | (go_at_call 23; refine (laminalaw17_plain.calls 5000 F T (fun k => w2.heap.size ≤ k) Av cv l F T (l.map toR) _ HVd.out HPL.out).mono ?_; rintro e w9 ⟨v9, rfl, hn9, hb9⟩; obtain ⟨A9, c9, rfl⟩ := Kd.N_slice hn9; have HC9 := Aside0.mk (Kd.N_reads' hn9).2.2; have HCw := Aside0.mk (Kd.C_below HSd.out hb9); have HB9 := Aside0.mk (below_step HBd.out hb9); have hq0 : w9.cell? ⟨w5.heap.size, 0, none⟩ = some (.int .i64 F) := (blk_cell (blk_below (HEd.out) hb9) 0).trans rfl; have hq1 : w9.cell? ⟨w5.heap.size, 1, none⟩ = some (.int .i64 T) := (blk_cell (blk_below (HEd.out) hb9) 1).trans rfl; have hq2 : w9.cell? ⟨w5.heap.size, 2, none⟩ = some (.slice Aw l.length cw) := (blk_cell (blk_below (HEd.out) hb9) 2).trans rfl; clear hn9 hb9)
      | (go_at_call 22; have hsame := laminaref17_Same.same F T A9 c9 Aw cw (l.map toR) w9 HC9.out HCw.out (by rw [List.length_map]; omega); rw [List.length_map] at hsame; refine hsame.mono ?_; rintro e w10 ⟨rfl, hb10⟩; have HB10 := Aside0.mk (below_step HB9.out hb10); clear hsame hb10))) | fail
    all_goals (
      go_wp2
      go_ret
      exact ⟨rfl, HB10.out⟩)
  · have HIS := Aside0.mk (fun W => by have := laminanum_Is.calls (some 2) 2 true W rfl; rw [errW_some] at this; exact this)
    rw [errW_some]
    have HPL := Aside0.mk (plain_f 0 0 [] (by simp))
    simp only [List.length_nil] at hz2 hy2 ⊢
    have HNI := Aside0.mk (fun (W : World) => (⟨rfl, Nat.zero_le _, fun h => absurd h (Nat.lt_irrefl 0)⟩ : Kd.C k65 W Aw 0 []))
    have HNV := Aside0.mk (fun (W : World) (bs : Nat) => (⟨Av, cv, rfl, Nat.zero_le _, fun W' _ => ⟨rfl, Nat.zero_le _, fun h => absurd h (Nat.lt_irrefl 0)⟩⟩ : Kd.V k61 61 W bs (fun _ => False) (.slice Av 0 cv) []))
    go_wp2_with fail
    go_region_with (first
      | (go_at_call 15; refine (HIS.out _).mono ?_; rintro e wi ⟨rfl, ⟨ng, rfl⟩⟩; have HBd := Aside0.mk (pw_below_drewN HB8.out (1 + ng)); have HEg := Aside0.mk (blk_drewN HE8.out (1 + ng)))
      | (go_at_call 23; refine (laminalaw17_plain.calls 5000 0 0 (fun _ => False) Av cv [] 0 0 [] _ (HNV.out _ 0) HPL.out).mono ?_; rintro e w9 ⟨v9, rfl, hn9, hb9⟩; obtain ⟨A9, c9, rfl⟩ := Kd.N_slice hn9; have HC9 := Aside0.mk (Kd.N_reads' hn9).2.2; have HB9 := Aside0.mk (below_step HBd.out hb9); have hq0 : w9.cell? ⟨w5.heap.size, 0, none⟩ = some (.int .i64 0) := (blk_cell (blk_below (HEg.out) hb9) 0).trans rfl; have hq1 : w9.cell? ⟨w5.heap.size, 1, none⟩ = some (.int .i64 0) := (blk_cell (blk_below (HEg.out) hb9) 1).trans rfl; have hq2 : w9.cell? ⟨w5.heap.size, 2, none⟩ = some (.slice Aw 0 cw) := (blk_cell (blk_below (HEg.out) hb9) 2).trans rfl; clear hn9 hb9)
      | (go_at_call 22; have hsame := laminaref17_Same.same 0 0 A9 c9 Aw cw [] w9 HC9.out (HNI.out _) (by simp); refine hsame.mono ?_; rintro e w10 ⟨rfl, hb10⟩; have HB10 := Aside0.mk (below_step HB9.out hb10); clear hsame hb10))
    all_goals (
      go_wp2
      go_ret
      exact ⟨rfl, HB10.out⟩)

/-! ### laminalaw17_DiffPuts: function 6 -/
theorem cell_lt_ {w : World} {p : Addr} {v : Value} (h : w.cell? p = some v) : p.block < w.heap.size := World.block_lt_of_cell? w p h
/-- Rows of cells whose bytes lie in blocks of S, whatever they are. -/
def RowsU (W : World) (S : Nat → Prop) (rows : List (List Value)) (rs : List S61) : Prop :=
  rows.length = rs.length ∧ ∀ (j : Nat) (r : S61), rs[j]? = some r → ∃ A c, rows[j]? = some [.int .i64 r.f0, .int .i64 r.f1, .bool r.f2, .slice A r.f3.length c] ∧ r.f3.length ≤ c ∧ U8s W A r.f3.length ∧ (0 < r.f3.length → ∃ ad, A = some ad ∧ S ad.block)
theorem RowsU.of {W : World} {S : Nat → Prop} {rows : List (List Value)} {rs : List S61} (h : RowsOk W S rows rs) : RowsU W S rows rs :=
  ⟨h.1, fun j r hj => by
    obtain ⟨A, c, h1, h2, h3, h4⟩ := h.2 j r hj
    exact ⟨A, c, h1, h2, U8s.of h3 h4, fun hp => by obtain ⟨ad, e, _⟩ := C_cells h3.row hp; exact ⟨ad, e, h3.blk hp ad e⟩⟩⟩
theorem U8s.below {W W' : World} {A : Option Addr} {n : Nat} (h : U8s W A n) (k : Below W.heap.size W W') : U8s W' A n := fun hp ad ha => by
  obtain ⟨h1, ⟨cs, h2⟩, h3⟩ := h hp ad ha
  refine ⟨h1, ⟨cs, blk_below h2 k⟩, fun j hj => ?_⟩
  obtain ⟨x, hx⟩ := h3 j hj
  exact ⟨x, below_cell_ k hx⟩
theorem RowsU.below {W W' : World} {S : Nat → Prop} {rows : List (List Value)} {rs : List S61} (h : RowsU W S rows rs) (k : Below W.heap.size W W') : RowsU W' S rows rs :=
  ⟨h.1, fun j r hj => by
    obtain ⟨A, c, h1, h2, h3, h4⟩ := h.2 j r hj
    exact ⟨A, c, h1, h2, h3.below k, h4⟩⟩
theorem RowsU.over {W W' : World} {S : Nat → Prop} {rows : List (List Value)} {rs : List S61} {A : Option Addr} {n : Nat} (h : RowsU W S rows rs) (sg : Seg W W' A n) (hu : U8s W' A n) : RowsU W' S rows rs :=
  ⟨h.1, fun j r hj => by
    obtain ⟨A', c, h1, h2, h3, h4⟩ := h.2 j r hj
    exact ⟨A', c, h1, h2, h3.over sg hu, h4⟩⟩
/-- An element of a row of cells. -/
theorem raw_at {W : World} {A : Option Addr} {n : Nat} {rows : List (List Value)} (h : (Kd.raw 4).C W A n rows) (j : Nat) {c0 c1 c2 c3 : Value} (hj : rows[j]? = some [c0, c1, c2, c3]) :
    ∃ ad, A = some ad ∧ W.cell? (ad.add (j * 4)) = some c0 ∧ W.cell? ⟨(ad.add (j * 4)).block, (ad.add (j * 4)).off + 1, none⟩ = some c1 ∧ W.cell? ⟨(ad.add (j * 4)).block, (ad.add (j * 4)).off + 2, none⟩ = some c2 ∧ W.cell? ⟨(ad.add (j * 4)).block, (ad.add (j * 4)).off + 3, none⟩ = some c3 := by
  have hl := (List.getElem?_eq_some_iff.1 hj).1
  have hn := h.1
  obtain ⟨ad, e, hc⟩ := h.2.2 (by omega)
  obtain ⟨cs, hcl, hk, hcell⟩ := hc j _ hj
  have hcs : cs = [c0, c1, c2, c3] := hk.1
  subst hcs
  have hc2 : ∀ i u, [c0, c1, c2, c3][i]? = some u → W.cell? (ad.add (j * 4 + i)) = some u := hcell
  exact ⟨ad, e, hc2 0 _ rfl, by rw [← add_field _ _ 1 (by omega)]; exact hc2 1 _ rfl, by rw [← add_field _ _ 2 (by omega)]; exact hc2 2 _ rfl, by rw [← add_field _ _ 3 (by omega)]; exact hc2 3 _ rfl⟩
theorem toR_toP (l : List S65) : (l.map toP).map toR = l := by
  rw [List.map_map]
  exact List.map_id' l
theorem flat_len : ∀ (l : List S61), (∀ r ∈ l, r.f3.length ≤ 4096) → (l.flatMap recL).length ≤ 5000 * l.length
  | [], _ => by simp
  | r :: l, h => by
    have h1 := recL_len r (h r (List.mem_cons_self ..))
    have h2 := flat_len l (fun x hx => h x (List.mem_cons_of_mem _ hx))
    rw [List.flatMap_cons, List.length_append, List.length_cons]
    omega
theorem putL_len (F T : Int) (l : List S61) (h : ∀ r ∈ l, r.f3.length ≤ 4096) : (putL F T l).length ≤ 46 + 5000 * l.length := by
  have := flat_len l h
  unfold putL
  rw [List.length_append, List.length_append, headL_len]
  have e : ([69] : List Int).length = 1 := rfl
  omega
set_option maxRecDepth 100000 in
set_option maxHeartbeats 8000000 in
theorem laminalaw17_DiffPuts.law (cs0 : Array Value) (x0 : S24) (w : World) (hk0 : k24.K w x0 cs0.toList)
    (_hg0 : (Lit.int .i64 x0.f0).wf = true ∧ (Lit.int .i64 x0.f1).wf = true ∧ (x0.f2.length * 48 ≤ 140737488351232 ∧ ∀ n ∈ x0.f2, (Lit.int .i64 n.f0).wf = true ∧ (Lit.int .i64 n.f1).wf = true ∧ True ∧ (n.f3.length * 1 ≤ 140737488351232 ∧ ∀ m ∈ n.f3, (Lit.int .u8 m).wf = true))) :
    Calls Try.prog 6 #[.agg cs0] w fun e w' => e = .returned (.bool true) ∧ Below w.heap.size w w' := by
  obtain ⟨A2, c2, hcs, l2, g2⟩ := k24_open hk0
  obtain rfl : cs0 = #[.int .i64 x0.f0, .int .i64 x0.f1, .slice A2 x0.f2.length c2] := by
    apply Array.toList_inj.1
    rw [hcs]
  obtain ⟨F, T, L⟩ := x0
  simp only at l2 g2 _hg0 ⊢
  have HG := Aside0.mk g2
  have HBY := Aside0.mk (fun r (hr : r ∈ L) => wfs_u8 (_hg0.2.2.2 r hr).2.2.2.2)
  have HAL := fun W => laminalaw17_alive.calls W
  obtain ⟨r, hlf, hlp⟩ := large_f F T L
  have HLF := Aside0.mk hlf
  have HLP := Aside0.mk hlp
  clear hlf hlp hcs hk0 g2 _hg0
  cases r
  case true =>
    go_enter Try.func6, Try.ntmps6
    go_wp2_with fail
    refine (HAL _).mono ?_
    rintro e w1 ⟨rfl, hb⟩
    have hk := blk_below (blk_new w (.cells #[.int .i64 F, .int .i64 T, .slice A2 L.length c2] 24)) hb
    have hz0 : w1.cell? ⟨w.heap.size, 0, none⟩ = some (.int .i64 F) := (blk_cell hk 0).trans rfl
    have hz1 : w1.cell? ⟨w.heap.size, 1, none⟩ = some (.int .i64 T) := (blk_cell hk 1).trans rfl
    have hz2 : w1.cell? ⟨w.heap.size, 2, none⟩ = some (.slice A2 L.length c2) := (blk_cell hk 2).trans rfl
    have HB1 := Aside0.mk (below_step (below_alloc (Below.refl w.heap.size w) _) hb)
    clear hb hk HAL
    go_wp2_with fail
    refine (laminalaw17_large.calls 50 F T A2 c2 L true _ (Kd.C_below HG.out HB1.out) l2 HLF.out).mono ?_
    rintro e w2 ⟨rfl, hb2⟩
    go_wp2
    go_ret
    exact ⟨rfl, below_step HB1.out hb2⟩
  have hL := HLP.out rfl
  have HLL := Aside0.mk hL
  have hL40 := hL.1
  have HPF := Aside0.mk (program_f F T L hL.1 hL.2)
  have HPL := Aside0.mk (show laminalaw17_plain.f 5000 F T (L.map toP) = some (F, T, L) by rw [plain_f F T (L.map toP) (by rw [List.length_map]; omega), toR_toP])
  clear hL
  have hcase : ∃ gd xs er, goodD F T (L.map toP) = gd ∧ putO F T (L.map toP) = (xs, er) ∧ ((gd = false ∧ xs = [] ∧ er = some 2) ∨ (gd = true ∧ xs = putL F T (L.map toP) ∧ er = none)) := by
    refine ⟨goodD F T (L.map toP), (putO F T (L.map toP)).1, (putO F T (L.map toP)).2, rfl, rfl, ?_⟩
    unfold putO
    by_cases hg : goodD F T (L.map toP) = true
    · rw [if_pos hg]; exact .inr ⟨hg, rfl, rfl⟩
    · rw [if_neg hg]; exact .inl ⟨by simpa using hg, rfl, rfl⟩
  obtain ⟨gd, xs, er, hgd, hpo, hcs⟩ := hcase
  have HGD := Aside0.mk hgd
  have HPO := Aside0.mk hpo
  have HCS := Aside0.mk hcs
  clear hgd hpo hcs
  go_enter Try.func6, Try.ntmps6
  go_wp2_with fail
  refine (HAL _).mono ?_
  rintro e w1 ⟨rfl, hb⟩
  have hk := blk_below (blk_new w (.cells #[.int .i64 F, .int .i64 T, .slice A2 L.length c2] 24)) hb
  have HK1 := Aside0.mk hk
  have hz0 : w1.cell? ⟨w.heap.size, 0, none⟩ = some (.int .i64 F) := (blk_cell hk 0).trans rfl
  have hz1 : w1.cell? ⟨w.heap.size, 1, none⟩ = some (.int .i64 T) := (blk_cell hk 1).trans rfl
  have hz2 : w1.cell? ⟨w.heap.size, 2, none⟩ = some (.slice A2 L.length c2) := (blk_cell hk 2).trans rfl
  have HB1 := Aside0.mk (below_step (below_alloc (Below.refl w.heap.size w) _) hb)
  clear hb hk HAL
  go_wp2_with fail
  refine (laminalaw17_large.calls 50 F T A2 c2 L false _ (Kd.C_below HG.out HB1.out) l2 HLF.out).mono ?_
  rintro e w2 ⟨rfl, hb2⟩
  have HK2 := Aside0.mk (blk_below HK1.out hb2)
  have HB2 := Aside0.mk (below_step HB1.out hb2)
  clear hb2 hz0 hz1 hz2 HK1 HB1
  have hz0 : w2.cell? ⟨w.heap.size, 0, none⟩ = some (.int .i64 F) := (blk_cell HK2.out 0).trans rfl
  have hz1 : w2.cell? ⟨w.heap.size, 1, none⟩ = some (.int .i64 T) := (blk_cell HK2.out 1).trans rfl
  have hz2 : w2.cell? ⟨w.heap.size, 2, none⟩ = some (.slice A2 L.length c2) := (blk_cell HK2.out 2).trans rfl
  go_wp2_with fail
  refine (laminalaw17_program.calls 50 F T A2 c2 L F T (L.map toP) _ (Kd.C_below HG.out HB2.out) l2 HPF.out).mono ?_
  rintro e w3 ⟨v3, rfl, hs3, hb3⟩
  obtain ⟨A3, c3, rfl⟩ := Kd.S_slice hs3
  have HS3 := Aside0.mk (Kd.S_mono (Kd.S_bound hs3) (ok' := fun k => w2.heap.size ≤ k ∧ k < w3.heap.size) (fun _ hk => ⟨hk.2.1, hk.2.2.1⟩))
  have HB3 := Aside0.mk (below_step HB2.out hb3)
  have HK3 := Aside0.mk (blk_below HK2.out hb3)
  have h23 := hb3.size
  have hw2 := blk_lt HK2.out
  clear hs3 hb3 hz0 hz1 hz2 HK2
  simp only [List.length_map] at HS3 ⊢
  go_wp2_with fail
  have HD4 := Aside0.mk (blk_new w3 (.cells #[.int .i64 F, .int .i64 T, .slice A3 L.length c3] 35))
  have hb4 := below_alloc (Below.refl w3.heap.size w3) (.cells #[.int .i64 F, .int .i64 T, .slice A3 L.length c3] 35)
  have HS4 := Aside0.mk (Kd.S_below HS3.out hb4)
  have HB4 := Aside0.mk (below_step HB3.out hb4)
  have HK4 := Aside0.mk (blk_below HK3.out hb4)
  clear HS3 HB3 HK3 hb4
  generalize hW : w3.alloc (.cells #[.int .i64 F, .int .i64 T, .slice A3 L.length c3] 35) = w4 at *
  clear hW
  have hput := diff_Put.calls F T A3 c3 (L.map toP) w4 (by have := (Kd.R_reads' (Kd.S_R HS4.out)).2.2; exact this) (by have := (Kd.R_reads' (Kd.S_R HS4.out)).2.1; rw [List.length_map]; exact this) (by rw [List.length_map]; omega)
  rw [List.length_map, HPO.out] at hput
  refine hput.mono ?_
  rintro e w5 ⟨v5, rfl, ho5, hb5⟩
  obtain ⟨A5, c5, rfl, -⟩ := Kd.R_reads ho5
  have HO5 := Aside0.mk ho5
  have HD5 := Aside0.mk (blk_below HD4.out hb5)
  have HS5 := Aside0.mk (Kd.S_below HS4.out hb5)
  have HB5 := Aside0.mk (below_step HB4.out hb5)
  have HK5 := Aside0.mk (blk_below HK4.out hb5)
  clear hput ho5 hb5 HD4 HS4 HB4 HK4
  have hz0 : w5.cell? ⟨w.heap.size, 0, none⟩ = some (.int .i64 F) := (blk_cell HK5.out 0).trans rfl
  have hz1 : w5.cell? ⟨w.heap.size, 1, none⟩ = some (.int .i64 T) := (blk_cell HK5.out 1).trans rfl
  have hz2 : w5.cell? ⟨w.heap.size, 2, none⟩ = some (.slice A2 L.length c2) := (blk_cell HK5.out 2).trans rfl
  go_wp2_with fail
  have hgc := laminaref17_Good.calls F T A2 c2 L _ (Kd.C_below HG.out HB5.out) l2 (by omega)
  rw [HGD.out] at hgc
  refine hgc.mono ?_
  rintro e w6 ⟨rfl, hb6⟩
  have HO6 := Aside0.mk (Kd.R_below HO5.out hb6)
  have HD6 := Aside0.mk (blk_below HD5.out hb6)
  have HS6 := Aside0.mk (Kd.S_below HS5.out hb6)
  have HB6 := Aside0.mk (below_step HB5.out hb6)
  have HK6 := Aside0.mk (blk_below HK5.out hb6)
  clear hgc hb6 HO5 HD5 HS5 HB5 HK5 hz0 hz1 hz2
  have hz0 : w6.cell? ⟨w.heap.size, 0, none⟩ = some (.int .i64 F) := (blk_cell HK6.out 0).trans rfl
  have hz1 : w6.cell? ⟨w.heap.size, 1, none⟩ = some (.int .i64 T) := (blk_cell HK6.out 1).trans rfl
  have hz2 : w6.cell? ⟨w.heap.size, 2, none⟩ = some (.slice A2 L.length c2) := (blk_cell HK6.out 2).trans rfl
  have hy0 : w6.cell? ⟨w3.heap.size, 0, none⟩ = some (.int .i64 F) := (blk_cell HD6.out 0).trans rfl
  have hy1 : w6.cell? ⟨w3.heap.size, 1, none⟩ = some (.int .i64 T) := (blk_cell HD6.out 1).trans rfl
  have hy2 : w6.cell? ⟨w3.heap.size, 2, none⟩ = some (.slice A3 L.length c3) := (blk_cell HD6.out 2).trans rfl
  have HSd := Aside0.mk (Kd.S_drew HS6.out)
  have HDd := Aside0.mk (blk_drew HD6.out)
  have HKd := Aside0.mk (blk_drew HK6.out)
  have HBd := Aside0.mk (below_drew HB6.out)
  have HOd := Aside0.mk (Kd.R_drew HO6.out)
  go_upto_region 8 with fail
  go_cut [35] (fun s35 wx => s35 = .bool false ∧ Aside0 (Below w.heap.size w wx) ∧ Aside0 (Below w6.drew.heap.size w6.drew wx))
  case first =>
    have hgf : diff_Good.f (L.length + 2) F T (L.map toP) = some gd := by rw [good_f F T (L.map toP) (by rw [List.length_map]; omega) _ (by rw [List.length_map]; omega), HGD.out]
    have HGF := Aside0.mk hgf
    clear hgf
    rcases HCS.out with ⟨rfl, -, -⟩ | ⟨rfl, -, -⟩
    all_goals (
      first | (go_region_with (first
        | (go_at_call 27; have hgc := diff_Good.calls (L.length + 2) F T A3 c3 (L.map toP) _ w6.drew (Kd.R_reads' (Kd.S_R HSd.out)).2.2 (by rw [List.length_map]; exact (Kd.R_reads' (Kd.S_R HSd.out)).2.1) HGF.out; rw [List.length_map] at hgc; refine hgc.mono ?_; rintro e wa ⟨rfl, hba⟩; have HSa := Aside0.mk (Kd.S_below HSd.out hba); have HKa := Aside0.mk (blk_below HKd.out hba); have hda := blk_below HDd.out hba; have HBa := Aside0.mk (below_step HBd.out hba); have HWa := Aside0.mk hba; have ha0 : wa.cell? ⟨w3.heap.size, 0, none⟩ = some (.int .i64 F) := (blk_cell hda 0).trans rfl; have ha1 : wa.cell? ⟨w3.heap.size, 1, none⟩ = some (.int .i64 T) := (blk_cell hda 1).trans rfl; have ha2 : wa.cell? ⟨w3.heap.size, 2, none⟩ = some (.slice A3 L.length c3) := (blk_cell hda 2).trans rfl; have hq0 : wa.cell? ⟨w.heap.size, 0, none⟩ = some (.int .i64 F) := (blk_cell HKa.out 0).trans rfl; have hq1 : wa.cell? ⟨w.heap.size, 1, none⟩ = some (.int .i64 T) := (blk_cell HKa.out 1).trans rfl; have hq2 : wa.cell? ⟨w.heap.size, 2, none⟩ = some (.slice A2 L.length c2) := (blk_cell HKa.out 2).trans rfl; clear hgc hba hda)
        | (go_at_call 23; have hpc := laminalaw17_plain.calls 5000 F T _ A3 c3 (L.map toP) F T L wa (V_of_S HSa.out) HPL.out; rw [List.length_map] at hpc; refine hpc.mono ?_; rintro e wb ⟨v9, rfl, hn9, hb9⟩; obtain ⟨A9, c9, rfl⟩ := Kd.N_slice hn9; have HC9 := Aside0.mk (Kd.N_reads' hn9).2.2; have HBb := Aside0.mk (below_step HBa.out hb9); have HWb := Aside0.mk (below_step HWa.out hb9); have hkb := blk_below HKa.out hb9; have hr0 : wb.cell? ⟨w.heap.size, 0, none⟩ = some (.int .i64 F) := (blk_cell hkb 0).trans rfl; have hr1 : wb.cell? ⟨w.heap.size, 1, none⟩ = some (.int .i64 T) := (blk_cell hkb 1).trans rfl; have hr2 : wb.cell? ⟨w.heap.size, 2, none⟩ = some (.slice A2 L.length c2) := (blk_cell hkb 2).trans rfl; clear hpc hn9 hb9 hkb)
        | (go_at_call 22; refine (laminaref17_Same.same F T A9 c9 A2 c2 L wb HC9.out (Kd.C_below HG.out HBb.out) (by omega)).mono ?_; rintro e wd ⟨rfl, hb10⟩; have HBc := Aside0.mk (below_step HBb.out hb10); have HWc := Aside0.mk (below_step HWb.out hb10); clear hb10))) | fail
      all_goals (go_wp2_with fail; go_meet; exact ⟨rfl, HBc, HWc⟩))
  case rest =>
    obtain ⟨rfl, HBc, HWc⟩ := hcut
    have HOc := Aside0.mk (Kd.R_mono (Kd.R_bound (Kd.R_below HOd.out HWc.out)) (ok' := fun i => i < wc.heap.size) (fun i hi => hi.2.2.1))
    have HKc := Aside0.mk (blk_below HKd.out HWc.out)
    have hwc := blk_lt HKc.out
    rcases HCS.out with ⟨rfl, rfl, rfl⟩ | ⟨rfl, hxs, rfl⟩
    · go_wp2_with fail
      refine (laminanum_Is.calls (some 2) 2 true _ rfl).mono ?_
      rintro e w8 ⟨rfl, ⟨n8, rfl⟩⟩
      go_wp2
      go_ret
      exact ⟨rfl, pw_below_drewN HBc.out _⟩
    · have hrecs := good_recs HGD.out
      have hlx : xs.length ≤ 300000 := by
        rw [hxs]
        have h1 := putL_len F T (L.map toP) (fun r hr => (hrecs.2.2 r hr).a3)
        rw [List.length_map] at h1
        omega
      have hbx : ∀ x ∈ xs, 0 ≤ x ∧ x < 256 := by
        rw [hxs]
        refine putL_bytes F T (L.map toP) (fun r hr x hx => ?_)
        obtain ⟨r', hr', rfl⟩ := List.mem_map.1 hr
        exact HBY.out r' hr' x hx
      have HXS := Aside0.mk hxs
      have HBX := Aside0.mk hbx
      clear hrecs hxs hbx
      rw [errW_none]
      go_wp2_with fail
      refine (diff_Take.calls A5 c5 xs _ (Kd.R_reads' HOc.out).2.2 (Kd.R_reads' HOc.out).2.1 HBX.out (by omega)).mono ?_
      rintro e w8 ⟨F', T', l', v', er, rfl, htp, hb8⟩
      have hty : er = none ∧ F = F' ∧ T = T' ∧ L.map toP = l' ∧ TakeYes wc w8 xs F T (L.map toP) v' := by
        rcases htp with ⟨rfl, hy⟩ | ⟨_, _, _, _, _, hno⟩
        · obtain ⟨rfl, rfl, rfl⟩ := take_same hy.good HGD.out hy.put HXS.out.symm
          exact ⟨rfl, rfl, rfl, rfl, hy⟩
        · exact absurd ⟨F, T, L.map toP, HGD.out, HXS.out.symm⟩ hno
      obtain ⟨rfl, rfl, rfl, rfl, hy⟩ := hty
      obtain ⟨rows, S, hrw, hok, hS⟩ := hy.rows
      obtain ⟨A8, c8, rfl, -⟩ := Kd.R_reads hrw
      have hrl := hok.1
      rw [List.length_map] at hrl
      rw [hrl] at hrw ⊢
      have HRW8 := Aside0.mk hrw
      have HOK8 := Aside0.mk hok
      have HSS := Aside0.mk hS
      have HB8 := Aside0.mk (below_step HBc.out hb8)
      have HO8 := Aside0.mk (Kd.R_below HOc.out hb8)
      have HK8 := Aside0.mk (blk_below HKc.out hb8)
      have h8 := hb8.size
      clear htp hy hrw hok hS hb8
      rw [errW_none]
      go_upto_region 13 with fail
      have HD9 := Aside0.mk (blk_drew (blk_new w8 (.cells #[.int .i64 F, .int .i64 T, .slice A8 L.length c8] 35)))
      have hb9 := below_drew (below_alloc (Below.refl w8.heap.size w8) (.cells #[.int .i64 F, .int .i64 T, .slice A8 L.length c8] 35))
      have HB9 := Aside0.mk (below_step HB8.out hb9)
      have HO9 := Aside0.mk (Kd.R_below HO8.out hb9)
      have HK9 := Aside0.mk (blk_below HK8.out hb9)
      have HRW9 := Aside0.mk (Kd.R_below HRW8.out hb9)
      have HOK9 := Aside0.mk (HOK8.out.only (Only.of_below hb9 (fun _ => False)) (fun _ _ h => h))
      have hK9 : (w8.alloc (.cells #[.int .i64 F, .int .i64 T, .slice A8 L.length c8] 35)).cell? ⟨w.heap.size, 0, none⟩ = some (.int .i64 F) := (blk_cell (blk_alloc HK8.out _) 0).trans rfl
      have hK9b : (w8.alloc (.cells #[.int .i64 F, .int .i64 T, .slice A8 L.length c8] 35)).cell? ⟨w.heap.size, 1, none⟩ = some (.int .i64 T) := (blk_cell (blk_alloc HK8.out _) 1).trans rfl
      have hK9c : (w8.alloc (.cells #[.int .i64 F, .int .i64 T, .slice A8 L.length c8] 35)).cell? ⟨w.heap.size, 2, none⟩ = some (.slice A2 L.length c2) := (blk_cell (blk_alloc HK8.out _) 2).trans rfl
      have h89 : w8.heap.size < (w8.alloc (.cells #[.int .i64 F, .int .i64 T, .slice A8 L.length c8] 35)).drew.heap.size := by simp
      have HVD := Aside0.mk (fun r (hr : r ∈ L) => (Nat.le_trans (HLL.out.2 r hr) (by omega) : r.f3.length ≤ 1000000))
      clear hb9 HB8 HO8 HK8 HRW8 HOK8
      generalize hW : w8.alloc (.cells #[.int .i64 F, .int .i64 T, .slice A8 L.length c8] 35) = w9 at *
      clear hW
      go_cut [9] (fun s9 wx => s9 = .bool true ∧ Aside0 (Below w.heap.size w wx) ∧ Aside0 (Below w9.drew.heap.size w9.drew wx))
      case first =>
        go_region_with (first
          | (go_at_call 29; have hpc := laminaref17_Put.calls F T A2 c2 L w9.drew (Kd.C_below HG.out HB9.out) l2 (by omega) HVD.out; rw [← HXS.out] at hpc; refine hpc.mono ?_; rintro e wa ⟨va, rfl, hoa, hba⟩; obtain ⟨Aa, ca, rfl, -⟩ := Kd.R_reads hoa; have HCa := Aside0.mk (Kd.R_reads' hoa); have HOa := Aside0.mk (Kd.R_below HO9.out hba); have hka := blk_below HK9.out hba; have hda := blk_below HD9.out hba; have HBa := Aside0.mk (below_step HB9.out hba); have HWa := Aside0.mk hba; have HRa := Aside0.mk (Kd.R_below HRW9.out hba); have HOKa := Aside0.mk (HOK9.out.only (Only.of_below hba (fun _ => False)) (fun _ _ h => h)); have HDa := Aside0.mk hda; have HKa := Aside0.mk hka; clear hpc hoa hba hka hda)
          | (go_at_call 16; refine (laminanum_Same.calls A5 c5 xs Aa ca xs true wa (Kd.R_reads' HOa.out).2.2 (Kd.R_reads' HOa.out).2.1 HCa.out.2.2 HCa.out.2.1 (same_refl xs)).mono ?_; rintro e wb ⟨rfl, ⟨nb, rfl⟩⟩; have hdb := blk_drewN HDa.out nb; have hb0 : (wa.drewN nb).cell? ⟨w8.heap.size, 0, none⟩ = some (.int .i64 F) := (blk_cell hdb 0).trans rfl; have hb1 : (wa.drewN nb).cell? ⟨w8.heap.size, 1, none⟩ = some (.int .i64 T) := (blk_cell hdb 1).trans rfl; have hb2 : (wa.drewN nb).cell? ⟨w8.heap.size, 2, none⟩ = some (.slice A8 L.length c8) := (blk_cell hdb 2).trans rfl; have hkb := blk_drewN HKa.out nb; have hq0 : (wa.drewN nb).cell? ⟨w.heap.size, 0, none⟩ = some (.int .i64 F) := (blk_cell hkb 0).trans rfl; have hq1 : (wa.drewN nb).cell? ⟨w.heap.size, 1, none⟩ = some (.int .i64 T) := (blk_cell hkb 1).trans rfl; have hq2 : (wa.drewN nb).cell? ⟨w.heap.size, 2, none⟩ = some (.slice A2 L.length c2) := (blk_cell hkb 2).trans rfl; have HRb := Aside0.mk (Kd.R_drewN HRa.out nb); have HOKb := Aside0.mk (HOKa.out.only ((Only.refl wa (fun _ => False)).drewN nb) (fun _ _ h => h)); have HBb := Aside0.mk (pw_below_drewN HBa.out nb); have HWb := Aside0.mk (pw_below_drewN HWa.out nb); have HKb := Aside0.mk hkb; clear hdb hkb)
          | (go_at_call 23; have hpc := laminalaw17_plain.calls 5000 F T _ A8 c8 (L.map toP) F T L (wa.drewN nb) (V_of_rows HRb.out HOKb.out HSS.out) HPL.out; rw [List.length_map] at hpc; refine hpc.mono ?_; rintro e wd ⟨v9, rfl, hn9, hbd⟩; obtain ⟨A9, c9, rfl⟩ := Kd.N_slice hn9; have HC9 := Aside0.mk (Kd.N_reads' hn9).2.2; have HBd' := Aside0.mk (below_step HBb.out hbd); have HWd := Aside0.mk (below_step HWb.out hbd); have hkd := blk_below HKb.out hbd; have hr0 : wd.cell? ⟨w.heap.size, 0, none⟩ = some (.int .i64 F) := (blk_cell hkd 0).trans rfl; have hr1 : wd.cell? ⟨w.heap.size, 1, none⟩ = some (.int .i64 T) := (blk_cell hkd 1).trans rfl; have hr2 : wd.cell? ⟨w.heap.size, 2, none⟩ = some (.slice A2 L.length c2) := (blk_cell hkd 2).trans rfl; clear hpc hn9 hbd hkd)
          | (go_at_call 22; refine (laminaref17_Same.same F T A9 c9 A2 c2 L wd HC9.out (Kd.C_below HG.out HBd'.out) (by omega)).mono ?_; rintro e we ⟨rfl, hb10⟩; have HBe := Aside0.mk (below_step HBd'.out hb10); have HWe := Aside0.mk (below_step HWd.out hb10); clear hb10))
        all_goals (go_wp2_with fail; go_meet; exact ⟨rfl, HBe, HWe⟩)
      case rest =>
        obtain ⟨rfl, HBx, HWx⟩ := hcut
        have HOx := Aside0.mk (Kd.R_below HO9.out HWx.out)
        have HKx := Aside0.mk (blk_below HK9.out HWx.out)
        have HDx := Aside0.mk (blk_below HD9.out HWx.out)
        have HUx := Aside0.mk ((RowsU.of HOK9.out).below HWx.out)
        have HRx := Aside0.mk (Kd.R_mono (Kd.R_bound (Kd.R_below HRW9.out HWx.out)) (ok' := fun i => ¬ S i ∧ i < wc.heap.size) (fun i hi => ⟨hi.1.2, hi.2.2.1⟩))
        have hz2 : wc.cell? ⟨w8.heap.size, 2, none⟩ = some (.slice A8 L.length c8) := (blk_cell HDx.out 2).trans rfl
        have h9x := HWx.out.size
        clear HO9 HK9 HD9 HOK9 HRW9
        go_wp2
        go_loopw [71] (fun v71 wr => ∃ j : Nat, j ≤ L.length ∧ v71 = .int .i64 j ∧ Aside0 (Only wc wr S) ∧ Aside0 (RowsU wr S rows (L.map toP))) (fun v71 _ => L.length - (intOf v71).toNat)
        case atStart => exact ⟨0, by omega, rfl, ⟨Only.refl _ _⟩, HUx⟩
        case round =>
          clear HUx
          obtain ⟨j, hj, rfl, HON, HU⟩ := hrel
          by_cases hlt : j < L.length
          · obtain ⟨Aj, cj, hrow, hcj, hu8, hbl⟩ := HU.out.2 j (toP L[j]) (by simp [hlt])
            have hrj := (Kd.R_reads' (R_only HRx.out HON.out (fun i hi h => hi.1 h))).2.2
            obtain ⟨ad, e, hx0, hx1, hx2, hx3⟩ := raw_at hrj j hrow
            subst e
            have hfl : (toP L[j]).f3.length ≤ 1000000 := HVD.out _ (List.getElem_mem hlt)
            obtain ⟨lj, hlj, hrb, hnf⟩ := hu8.rb (S := S) (fun hp => by obtain ⟨a, e, _⟩ := hbl hp; exact ⟨a, e⟩) (by omega) (fun hp a ha => by obtain ⟨a', e, hs⟩ := hbl hp; rw [ha] at e; cases e; exact hs)
            have HRB := Aside0.mk hrb
            have HNF := Aside0.mk hnf
            have HLJ := Aside0.mk hlj
            rw [← hlj] at hx3
            clear hrow hu8 hbl hrj hrb hnf hlj hfl hcj
            generalize toP L[j] = rj at *
            go_wp2_with fail
            have hal := below_alloc (Below.refl wr.heap.size wr) (.cells #[.int .i64 rj.f0, .int .i64 rj.f1, .bool rj.f2, .slice Aj lj.length cj] 61)
            refine (laminanum_Over.u8 S Aj cj lj _ (HRB.out.below hal) (HNF.out.only HRB.out (Only.of_below hal (fun _ => False)) (fun _ _ h => h))).mono ?_
            rintro e w12 ⟨rfl, hsg, hu⟩
            have HON2 := Aside0.mk ((HON.out.below_ hal).same (hsg.only (HRB.out.below hal)))
            have HU2 := Aside0.mk ((HU.out.below hal).over hsg hu)
            clear hsg hu hal
            go_wp2
            exact ⟨⟨j + 1, by omega, by go_num, HON2, HU2⟩, by simp [intOf]; omega⟩
          · obtain rfl : j = L.length := by omega
            have hO := R_only HOx.out HON.out (fun i hi h => by have := HSS.out i h; omega)
            have HOO := Aside0.mk hO
            have HKz := Aside0.mk (HON.out.same_block HKx.out (fun h => by have := HSS.out _ h; omega))
            have HBz := Aside0.mk (HBx.out.trans (HON.out.below (B := w.heap.size) (fun i hi => by have := HSS.out i hi; omega) HBx.out.size))
            have hy0 : wr.cell? ⟨w.heap.size, 0, none⟩ = some (.int .i64 F) := (blk_cell HKz.out 0).trans rfl
            have hy1 : wr.cell? ⟨w.heap.size, 1, none⟩ = some (.int .i64 T) := (blk_cell HKz.out 1).trans rfl
            have hy2 : wr.cell? ⟨w.heap.size, 2, none⟩ = some (.slice A2 L.length c2) := (blk_cell HKz.out 2).trans rfl
            clear hO
            go_wp2_with fail
            have hpc := laminaref17_Put.calls F T A2 c2 L wr (Kd.C_below HG.out HBz.out) l2 (by omega) HVD.out
            rw [← HXS.out] at hpc
            refine hpc.mono ?_
            rintro e wy ⟨vy, rfl, hoy, hby⟩
            obtain ⟨Ay, cy, rfl, -⟩ := Kd.R_reads hoy
            have HCY := Aside0.mk (Kd.R_reads' hoy)
            have HOY := Aside0.mk (Kd.R_reads' (Kd.R_below HOO.out hby))
            have HBY2 := Aside0.mk (below_step HBz.out hby)
            clear hpc hoy hby
            go_wp2_with fail
            refine (laminanum_Same.calls A5 c5 xs Ay cy xs true wy HOY.out.2.2 HOY.out.2.1 HCY.out.2.2 HCY.out.2.1 (same_refl xs)).mono ?_
            rintro e w14 ⟨rfl, ⟨n14, rfl⟩⟩
            go_wp2
            go_ret
            exact ⟨rfl, pw_below_drewN HBY2.out _⟩

end Go.Proofs.Ytdehifinipmmcaa.Hp
