/- Contracts of functions of the given program, and what they lean on: written by this session's own program, out of hand texts laid into the kit's printer. -/
import Derived.Deep.RegionWith
import Derived.Test.YtdehifinipmmcaaHp0
import Derived.Test.YtdehifinipmmcaaHg1
import Derived.Test.YtdehifinipmmcaaHg3
import Derived.Test.YtdehifinipmmcaaHg4
import Derived.Test.YtdehifinipmmcaaHg5
import Derived.Test.YtdehifinipmmcaaHg11
import Derived.Test.YtdehifinipmmcaaHg12
import Derived.Test.YtdehifinipmmcaaHg13
import Derived.Test.YtdehifinipmmcaaHg15
import Derived.Test.YtdehifinipmmcaaHg16
import Derived.Test.YtdehifinipmmcaaHg17
namespace Go.Proofs.Ytdehifinipmmcaa.Hp
open Go.RowKit Go.Proofs.YtdehifinipmmcaaW.PrintWords Go.Proofs.YtdehifinipmmcaaW.PrintLast Go.Proofs.YtdehifinipmmcaaW.PrintMore
attribute [local go_sem] max2_int min2_int max_two min_two max_three min_three max_four min_four   -- for this text's walks alone
set_option linter.unusedVariables false
set_option linter.unusedSimpArgs false

/-! ### laminalaw17_DiffTakes: function 7 -/
theorem RowsOk.step {W W' : World} {S : Nat → Prop} {rows : List (List Value)} {rs : List S61} (h : RowsOk W S rows rs) (hm : ∀ k, S k → k < W.heap.size → W'.heap[k]? = W.heap[k]?) : RowsOk W' S rows rs :=
  ⟨h.1, fun j r hj => by
    obtain ⟨A, c, h1, h2, h3, h4⟩ := h.2 j r hj
    refine ⟨A, c, h1, h2, ⟨C_cells_mono h3.row (fun ad i he hi => ?_), h3.blk⟩, fun hp a ha => ?_⟩
    · exact cell_same (hm _ (h3.blk (by omega) ad he) (h3.lt (by omega) ad he)) _ (add_blk ad i)
    · obtain ⟨hs, cs, hc⟩ := h4 hp a ha
      exact ⟨hs, cs, (hm _ (h3.blk hp a ha) (blk_size hc)).trans hc⟩⟩
theorem V_of_rows {W : World} {B base n c : Nat} {S : Nat → Prop} {A : Option Addr} {rows : List (List Value)} {rs : List S61} (hR : (Kd.raw 4).R 61 W B (fun k => B ≤ k ∧ ¬ S k) (.slice A n c) rows) (hok : RowsOk W S rows rs) (hS : ∀ i, S i → B ≤ i) :
    Kd.V k61 61 W base (fun k => B ≤ k) (.slice A rs.length c) rs := by
  obtain ⟨hn, hc, -⟩ := Kd.R_reads' hR
  have h1 := hok.1
  exact ⟨A, c, rfl, by omega, fun W' hW => C_of_rows (Kd.R_reads' (Kd.R_step hR (fun k hk hl => hW k hk.1 hl))).2.2 (hok.step (fun k hk hl => hW k (hS k hk) hl))⟩
theorem take_same {F T F' T' : Int} {l l' : List S61} {b : List Int} (h : goodD F T l = true) (h' : goodD F' T' l' = true) (e : putL F T l = b) (e' : putL F' T' l' = b) : F = F' ∧ T = T' ∧ l = l' := by
  obtain ⟨-, a1, a2, a3, -, -⟩ := read_back h
  obtain ⟨-, b1, b2, b3, -, -⟩ := read_back h'
  have hl := (read_all h).2
  have hl' := (read_all h').2
  rw [e] at a1 a2 a3 hl
  rw [e'] at b1 b2 b3 hl'
  have hn : l.length = l'.length := by rw [a3] at b3; omega
  exact ⟨a1.symm.trans b1, a2.symm.trans b2, by rw [← hl, ← hl', hn]⟩
theorem TakeP.slice {w w' : World} {b : List Int} {F T : Int} {l : List S61} {v : Value} {er : Option Int} (h : TakeP w w' b F T l v er) : ∃ A c, v = .slice A l.length c := by
  rcases h with ⟨_, hy⟩ | ⟨_, _, _, rfl, rfl, _⟩
  · obtain ⟨rows, S, hr, ok, _⟩ := hy.rows
    obtain ⟨A, c, rfl, -⟩ := Kd.R_reads hr
    exact ⟨A, c, by rw [ok.1]⟩
  · exact ⟨none, 0, rfl⟩
theorem RTakeP.slice {w w' : World} {b : List Int} {F T : Int} {l : List S61} {v : Value} {ok : Bool} (h : RTakeP w w' b F T l v ok) : ∃ A c, v = .slice A l.length c := by
  rcases h with ⟨_, _, _, hs⟩ | ⟨_, _, _, rfl, rfl, _⟩
  · obtain ⟨A, c, rfl⟩ := Kd.S_slice hs
    exact ⟨A, c, by rw [List.length_map]⟩
  · exact ⟨none, 0, rfl⟩
theorem C_nilR (w : World) : Kd.C k65 w none 0 [] := Kd.C_nil _ _
set_option maxRecDepth 100000 in
set_option maxHeartbeats 8000000 in
theorem laminalaw17_DiffTakes.law (A0 : Option Addr) (c0 : Nat) (l0 : List Int) (w : World) (hr0 : Kd.C (Kd.int .u8) w A0 l0.length l0) (hc0 : l0.length ≤ c0) (_hy0 : l0.length * 1 ≤ 140737488351232) (hw0 : ∀ n ∈ l0, (Lit.int .u8 n).wf = true) :
    Calls Try.prog 7 #[.slice A0 l0.length c0] w fun e w' => e = .returned (.bool true) ∧ Below w.heap.size w w' := by
  have HR0 := Aside0.mk hr0
  have HBY := Aside0.mk (wfs_u8 hw0)
  have HAL := fun W => laminalaw17_alive.calls W
  have hm0 := hr0.2.1
  clear hr0 hw0 _hy0
  by_cases hbig0 : (l0.length : Int) > 5000
  · go_enter Try.func7, Try.ntmps7
    go_wp2_with fail
    refine (HAL _).mono ?_
    rintro e w1 ⟨rfl, hb⟩
    go_wp2
    go_ret
    exact ⟨rfl, hb⟩
  have h0 : l0.length ≤ 5000 := by omega
  clear hbig0
  go_enter Try.func7, Try.ntmps7
  go_wp2_with fail
  refine (HAL _).mono ?_
  rintro e w1 ⟨rfl, hb1⟩
  have HB1 := Aside0.mk hb1
  clear hb1 HAL
  go_wp2_with fail
  refine (laminanum_Copy.calls A0 c0 l0 _ (Kd.C_below HR0.out HB1.out) (by omega)).mono ?_
  rintro e w2 ⟨g, cap, rfl, hg, hR2, hb2⟩
  have hg2 : g < w2.heap.size := Kd.R_lt hR2 g rfl
  have hgw : w.heap.size ≤ g := Nat.le_trans HB1.out.size hg
  have HR2 := Aside0.mk (Kd.R_lower hR2 HB1.out.size)
  have HB2 := Aside0.mk (below_step HB1.out hb2)
  obtain ⟨hC2, hcap⟩ := Kp_C HR2.out
  have HC2 := Aside0.mk hC2
  clear hR2 hb2 hC2 hg
  go_wp2_with fail
  refine (diff_Take.calls (some ⟨g, 0, none⟩) cap l0 _ HC2.out (by omega) HBY.out (by omega)).mono ?_
  rintro e w3 ⟨F, T, l, v, er, rfl, htp, hb3⟩
  obtain ⟨Av, cv, rfl⟩ := htp.slice
  have HTP := Aside0.mk htp
  have HR3 := Aside0.mk (Kd.R_below HR2.out hb3)
  have HB3 := Aside0.mk (below_step HB2.out hb3)
  have h23 := hb3.size
  clear htp hb3 HC2 HR2
  go_wp2_with fail
  have HD4 := Aside0.mk (blk_new w3 (.cells #[.int .i64 F, .int .i64 T, .slice Av l.length cv] 35))
  have hb4 := below_alloc (Below.refl w3.heap.size w3) (.cells #[.int .i64 F, .int .i64 T, .slice Av l.length cv] 35)
  have HR4 := Aside0.mk (Kd.R_below HR3.out hb4)
  have HB4 := Aside0.mk (below_step HB3.out hb4)
  have h34 : w3.heap.size < (w3.alloc (.cells #[.int .i64 F, .int .i64 T, .slice Av l.length cv] 35)).heap.size := by simp
  have HO4 := Aside0.mk hb4
  clear HR3 HB3 hb4
  generalize hW : w3.alloc (.cells #[.int .i64 F, .int .i64 T, .slice Av l.length cv] 35) = w4 at *
  clear hW
  refine (laminaref17_Take.calls A0 c0 l0 _ (Kd.C_below HR0.out HB4.out) hc0 HBY.out (by omega)).mono ?_
  rintro e w5 ⟨F', T', l', v', ok, rfl, hrp, hb5⟩
  obtain ⟨Aw, cw, rfl⟩ := hrp.slice
  have HRP := Aside0.mk hrp
  have HD5 := Aside0.mk (blk_below HD4.out hb5)
  have HR5 := Aside0.mk (Kd.R_below HR4.out hb5)
  have HB5 := Aside0.mk (below_step HB4.out hb5)
  have HO5 := Aside0.mk (below_step HO4.out hb5)
  have h45 := hb5.size
  clear hrp hb5 HD4 HR4 HB4 HO4
  go_wp2_with fail
  have HE6 := Aside0.mk (blk_new w5 (.cells #[.int .i64 F', .int .i64 T', .slice Aw l'.length cw] 24))
  have hb6 := below_alloc (Below.refl w5.heap.size w5) (.cells #[.int .i64 F', .int .i64 T', .slice Aw l'.length cw] 24)
  have HD6 := Aside0.mk (blk_below HD5.out hb6)
  have HR6 := Aside0.mk (Kd.R_below HR5.out hb6)
  have HB6 := Aside0.mk (below_step HB5.out hb6)
  have HO6 := Aside0.mk (below_step HO5.out hb6)
  have HP6 := Aside0.mk hb6
  have h56 : w5.heap.size < (w5.alloc (.cells #[.int .i64 F', .int .i64 T', .slice Aw l'.length cw] 24)).heap.size := by simp
  clear HD5 HR5 HB5 HO5 hb6
  generalize hW : w5.alloc (.cells #[.int .i64 F', .int .i64 T', .slice Aw l'.length cw] 24) = w6 at *
  clear hW
  refine (laminanum_Kept.calls g cap _ _ A0 c0 l0 _ HR6.out (Kd.C_below HR0.out HB6.out) (by omega)).mono ?_
  rintro e w7 ⟨rfl, ⟨n7, rfl⟩⟩
  go_wp2_with fail
  have hRR := Kd.R_drewN HR6.out n7
  have hRbg : Rb (w6.drewN n7) (fun i => i = g) (some ⟨g, 0, none⟩) l0 := ⟨(Kp_C hRR).1, fun _ a ha => by cases ha; rfl⟩
  have hNfg : Nf (w6.drewN n7) (some ⟨g, 0, none⟩) l0 := fun _ a ha => by
    cases ha
    obtain ⟨g'', cap'', e', _, _, cells, hc'⟩ := Kd.R_form hRR (by simp)
    cases e'
    exact ⟨rfl, cells, hc'⟩
  refine (laminanum_Over.seg (fun i => i = g) (some ⟨g, 0, none⟩) cap l0 _ hRbg hNfg).mono ?_
  rintro e w8 ⟨rfl, hsg⟩
  have og := (((Only.refl w6 (fun i => i = g)).drewN n7).same (hsg.only hRbg))
  have HOG := Aside0.mk og
  have HD8 := Aside0.mk (og.same_block HD6.out (by show ¬ w3.heap.size = g; omega))
  have HE8 := Aside0.mk (og.same_block HE6.out (by show ¬ w5.heap.size = g; omega))
  have HB8 := Aside0.mk (HB6.out.trans (og.below (B := w.heap.size) (fun i hi => by omega) HB6.out.size))
  have h68 := og.size
  clear hRR hRbg hNfg hsg og HR6 HD6 HE6 HB6
  have hz0 : w8.cell? ⟨w3.heap.size, 0, none⟩ = some (.int .i64 F) := (blk_cell HD8.out 0).trans rfl
  have hz1 : w8.cell? ⟨w3.heap.size, 1, none⟩ = some (.int .i64 T) := (blk_cell HD8.out 1).trans rfl
  have hz2 : w8.cell? ⟨w3.heap.size, 2, none⟩ = some (.slice Av l.length cv) := (blk_cell HD8.out 2).trans rfl
  have hy0 : w8.cell? ⟨w5.heap.size, 0, none⟩ = some (.int .i64 F') := (blk_cell HE8.out 0).trans rfl
  have hy1 : w8.cell? ⟨w5.heap.size, 1, none⟩ = some (.int .i64 T') := (blk_cell HE8.out 1).trans rfl
  have hy2 : w8.cell? ⟨w5.heap.size, 2, none⟩ = some (.slice Aw l'.length cw) := (blk_cell HE8.out 2).trans rfl
  have hcase : (er = none ∧ ok = true ∧ F = F' ∧ T = T' ∧ l = l' ∧ goodD F T l = true ∧ TakeYes w2 w3 l0 F T l (.slice Av l.length cv) ∧ Kd.S k65 65 w5 w4.heap.size (fun _ => True) (.slice Aw l'.length cw) (l'.map toR)) ∨ (er = some 2 ∧ ok = false ∧ F = 0 ∧ T = 0 ∧ F' = 0 ∧ T' = 0 ∧ l = [] ∧ l' = []) := by
    rcases HTP.out with ⟨rfl, hy⟩ | ⟨rfl, rfl, rfl, rfl, hv, hno⟩
    · rcases HRP.out with ⟨rfl, hg, hp, hs⟩ | ⟨rfl, rfl, rfl, rfl, hv', hno⟩
      · obtain ⟨e1, e2, e3⟩ := take_same hy.good hg hy.put hp
        exact .inl ⟨rfl, rfl, e1, e2, e3, hy.good, hy, hs⟩
      · exact absurd ⟨_, _, _, hy.good, hy.put⟩ hno
    · rcases HRP.out with ⟨rfl, hg, hp, hs⟩ | ⟨rfl, rfl, rfl, rfl, hv', hno'⟩
      · exact absurd ⟨_, _, _, hg, hp⟩ hno
      · exact .inr ⟨rfl, rfl, rfl, rfl, rfl, rfl, rfl, rfl⟩
  clear HTP HRP
  rcases hcase with ⟨rfl, rfl, rfl, rfl, rfl, hgd, hty, hs5⟩ | ⟨rfl, rfl, rfl, rfl, rfl, rfl, rfl, rfl⟩
  · obtain ⟨rows, S, hrw, hok, hS⟩ := hty.rows
    have hll := (good_recs hgd).2.1
    have hO : Only w3 w8 (fun i => i = g) := (Only.of_below HO6.out _).same HOG.out
    have hrw8 := R_only (Kd.R_mono hrw (ok' := fun k => w2.heap.size ≤ k ∧ ¬ S k) (fun k hk => hk)) hO (fun i hi h => by omega)
    have hok8 := hok.only hO (fun i hi h => by have := hS i hi; omega)
    have HV := Aside0.mk (fun n => V_of_rows (base := (w8.drewN n).heap.size) (Kd.R_drewN hrw8 n) (hok8.only ((Only.refl w8 (fun _ => False)).drewN n) (fun _ _ h => h)) hS)
    have hs8 := S_only2 (Kd.S_below (Kd.S_mono (Kd.S_bound hs5) (ok' := fun i => True ∧ w4.heap.size ≤ i) (fun i hi => ⟨trivial, hi.2.1⟩)) HP6.out) HOG.out (fun i hi h => by have := hi.2; omega)
    have HS8 := Aside0.mk (Kd.R_reads' (Kd.S_R hs8)).2.2
    have HPL := Aside0.mk (plain_f F T l (by omega))
    clear hrw hok hS hs5 hO hrw8 hok8 hs8 hty hgd
    have HVd := Aside0.mk (Kd.V_drew (HV.out 0))
    have HEd := Aside0.mk (blk_drew HE8.out)
    have HSd := Aside0.mk (Kd.C_drew HS8.out)
    have HBd := Aside0.mk (below_drew HB8.out)
    rw [errW_none]
    go_wp2_with fail
    first | (go_region_with (first
      | (go_at_call 23; refine (laminalaw17_plain.calls 5000 F T (fun k => w2.heap.size ≤ k) Av cv l F T (l.map toR) _ HVd.out HPL.out).mono ?_; rintro e w9 ⟨v9, rfl, hn9, hb9⟩; obtain ⟨A9, c9, rfl⟩ := Kd.N_slice hn9; have HC9 := Aside0.mk (Kd.N_reads' hn9).2.2; have HCw := Aside0.mk (Kd.C_below HSd.out hb9); have HB9 := Aside0.mk (below_step HBd.out hb9); have hq0 : w9.cell? ⟨w5.heap.size, 0, none⟩ = some (.int .i64 F) := (blk_cell (blk_below (HEd.out) hb9) 0).trans rfl; have hq1 : w9.cell? ⟨w5.heap.size, 1, none⟩ = some (.int .i64 T) := (blk_cell (blk_below (HEd.out) hb9) 1).trans rfl; have hq2 : w9.cell? ⟨w5.heap.size, 2, none⟩ = some (.slice Aw l.length cw) := (blk_cell (blk_below (HEd.out) hb9) 2).trans rfl; clear hn9 hb9)
      | (go_at_call 22; have hsame := laminaref17_Same.same F T A9 c9 Aw cw (l.map toR) w9 HC9.out HCw.out (by rw [List.length_map]; omega); rw [List.length_map] at hsame; refine hsame.mono ?_; rintro e w10 ⟨rfl, hb10⟩; have HB10 := Aside0.mk (below_step HB9.out hb10); clear hsame hb10))) | fail
    all_goals (
      go_wp2
      go_ret
      exact ⟨rfl, HB10.out⟩)
  · have HIS := Aside0.mk (fun W => by have := laminanum_Is.calls (some 2) 2 true W rfl; rw [errW_some] at this; exact this)
    rw [errW_some]
    have HPL := Aside0.mk (plain_f 0 0 [] (by simp))
    simp only [List.length_nil] at hz2 hy2 ⊢
    have HNI := Aside0.mk (fun (W : World) => (⟨rfl, Nat.zero_le _, fun h => absurd h (Nat.lt_irrefl 0)⟩ : Kd.C k65 W Aw 0 []))
    have HNV := Aside0.mk (fun (W : World) (bs : Nat) => (⟨Av, cv, rfl, Nat.zero_le _, fun W' _ => ⟨rfl, Nat.zero_le _, fun h => absurd h (Nat.lt_irrefl 0)⟩⟩ : Kd.V k61 61 W bs (fun _ => False) (.slice Av 0 cv) []))
    go_wp2_with fail
    go_region_with (first
      | (go_at_call 15; refine (HIS.out _).mono ?_; rintro e wi ⟨rfl, ⟨ng, rfl⟩⟩; have HBd := Aside0.mk (pw_below_drewN HB8.out (1 + ng)); have HEg := Aside0.mk (blk_drewN HE8.out (1 + ng)))
      | (go_at_call 23; refine (laminalaw17_plain.calls 5000 0 0 (fun _ => False) Av cv [] 0 0 [] _ (HNV.out _ 0) HPL.out).mono ?_; rintro e w9 ⟨v9, rfl, hn9, hb9⟩; obtain ⟨A9, c9, rfl⟩ := Kd.N_slice hn9; have HC9 := Aside0.mk (Kd.N_reads' hn9).2.2; have HB9 := Aside0.mk (below_step HBd.out hb9); have hq0 : w9.cell? ⟨w5.heap.size, 0, none⟩ = some (.int .i64 0) := (blk_cell (blk_below (HEg.out) hb9) 0).trans rfl; have hq1 : w9.cell? ⟨w5.heap.size, 1, none⟩ = some (.int .i64 0) := (blk_cell (blk_below (HEg.out) hb9) 1).trans rfl; have hq2 : w9.cell? ⟨w5.heap.size, 2, none⟩ = some (.slice Aw 0 cw) := (blk_cell (blk_below (HEg.out) hb9) 2).trans rfl; clear hn9 hb9)
      | (go_at_call 22; have hsame := laminaref17_Same.same 0 0 A9 c9 Aw cw [] w9 HC9.out (HNI.out _) (by simp); refine hsame.mono ?_; rintro e w10 ⟨rfl, hb10⟩; have HB10 := Aside0.mk (below_step HB9.out hb10); clear hsame hb10))
    all_goals (
      go_wp2
      go_ret
      exact ⟨rfl, HB10.out⟩)

end Go.Proofs.Ytdehifinipmmcaa.Hp
