/- Contracts of functions of the given program, and what they lean on: written by this session's own program, out of hand texts laid into the kit's printer. -/
import Derived.Test.YtdehifinipmmcaaHp0
import Derived.Deep.QuietTactic
import Derived.BigQuiet
import Derived.Test.YtdehifinipmmcaaHg1
import Derived.Test.YtdehifinipmmcaaHg2
import Derived.Test.YtdehifinipmmcaaHg3
import Derived.Test.YtdehifinipmmcaaHg4
namespace Go.Proofs.Ytdehifinipmmcaa.Hp
open Go.RowKit Go.Proofs.YtdehifinipmmcaaW.PrintWords Go.Proofs.YtdehifinipmmcaaW.PrintLast Go.Proofs.YtdehifinipmmcaaW.PrintMore
attribute [local go_sem] max2_int min2_int max_two min_two max_three min_three max_four min_four   -- for this text's walks alone
set_option linter.unusedVariables false
set_option linter.unusedSimpArgs false

/-! ### laminaref17_Same: function 22 -/
set_option maxRecDepth 100000 in
set_option maxHeartbeats 8000000 in
theorem laminaref17_Same.same (F T : Int) (A1 : Option Addr) (c1 : Nat) (A2 : Option Addr) (c2 : Nat) (l : List S65) (w : World) (hr1 : Kd.C k65 w A1 l.length l) (hr2 : Kd.C k65 w A2 l.length l) (hl : l.length ≤ 1000000) :
    Calls Try.prog 22 #[.agg #[.int .i64 F, .int .i64 T, .slice A1 l.length c1], .agg #[.int .i64 F, .int .i64 T, .slice A2 l.length c2]] w fun e w' => e = .returned (.bool true) ∧ Below w.heap.size w w' := by
  have HR1 := Aside0.mk hr1
  have HR2 := Aside0.mk hr2
  clear hr1 hr2
  go_enter Try.func22, Try.ntmps22
  go_wp2
  go_loopw [5] (fun v5 wr => ∃ (i : Nat), i ≤ l.length ∧ v5 = .int .i64 i ∧ Aside0 (Below w.heap.size w wr) ∧ Aside0 (wr.heap[w.heap.size]? = some (.cells #[.int .i64 F, .int .i64 T, .slice A1 l.length c1] 24 (0, 0))) ∧ Aside0 (wr.heap[w.heap.size + 1]? = some (.cells #[.int .i64 F, .int .i64 T, .slice A2 l.length c2] 24 (0, 0)))) (fun v5 _ => l.length - (intOf v5).toNat)
  case atStart => exact ⟨0, by omega, rfl, ⟨below_alloc (below_alloc (Below.refl _ _) _) _⟩, ⟨blk_alloc (blk_new w _) _⟩, ⟨by have := blk_new (w.alloc (.cells #[.int .i64 F, .int .i64 T, .slice A1 l.length c1] 24)) (.cells #[.int .i64 F, .int .i64 T, .slice A2 l.length c2] 24); simpa using this⟩⟩
  case round =>
    obtain ⟨i, hi, rfl, HB, BK0, BK1⟩ := hrel
    have hz0 : wr.cell? ⟨w.heap.size, 2, none⟩ = some (.slice A1 l.length c1) := (blk_cell BK0.out 2).trans rfl
    have hz1 : wr.cell? ⟨w.heap.size + 1, 2, none⟩ = some (.slice A2 l.length c2) := (blk_cell BK1.out 2).trans rfl
    have hz1a : ∀ ob, (wr.alloc ob).cell? ⟨w.heap.size + 1, 2, none⟩ = some (.slice A2 l.length c2) := fun ob => Lib.cell?_alloc_some ob hz1
    by_cases hlt : i < l.length
    · obtain ⟨ad, A3, c3, e, hx0, hx1, hx2, hx3, hl3, hc3⟩ := at_T65 (Kd.C_below HR1.out HB.out) i (by omega) (by omega)
      obtain ⟨bd, A4, c4, e', hy0, hy1, hy2, hy3, hl4, hc4⟩ := at_T65 (Kd.C_below HR2.out HB.out) i (by omega) (by omega)
      subst e e'
      simp only [Int.toNat_natCast] at hx0 hx1 hx2 hx3 hy0 hy1 hy2 hy3
      generalize rd_T65 l i = r at *
      obtain ⟨r0, r1, z, d⟩ := r
      simp only at hx0 hx1 hx2 hx3 hl3 hy0 hy1 hy2 hy3 hl4 hc3 hc4
      have hu0 : ∀ ob, (wr.alloc ob).cell? (bd.add (i * 4)) = _ := fun ob => Lib.cell?_alloc_some ob hy0
      have hu1 : ∀ ob, (wr.alloc ob).cell? ⟨(bd.add (i * 4)).block, (bd.add (i * 4)).off + 1, none⟩ = _ := fun ob => Lib.cell?_alloc_some ob hy1
      have hu2 : ∀ ob, (wr.alloc ob).cell? ⟨(bd.add (i * 4)).block, (bd.add (i * 4)).off + 2, none⟩ = _ := fun ob => Lib.cell?_alloc_some ob hy2
      have hu3 : ∀ ob, (wr.alloc ob).cell? ⟨(bd.add (i * 4)).block, (bd.add (i * 4)).off + 3, none⟩ = _ := fun ob => Lib.cell?_alloc_some ob hy3
      have hcv3 := Kd.C_string (P := Try.prog) (A := A3) (c := c3) Try.underlying25 Try.underlying5 Try.underlying9 (Kd.C_alloc (Kd.C_alloc hc3 (.cells #[.int .i64 r0, .int .i64 r1, .bool z, .slice A3 d.length c3] 65)) (.cells #[.int .i64 r0, .int .i64 r1, .bool z, .slice A4 d.length c4] 65))
      have hcv4 := Kd.C_string (P := Try.prog) (A := A4) (c := c4) Try.underlying25 Try.underlying5 Try.underlying9 (Kd.C_alloc (Kd.C_alloc hc4 (.cells #[.int .i64 r0, .int .i64 r1, .bool z, .slice A3 d.length c3] 65)) (.cells #[.int .i64 r0, .int .i64 r1, .bool z, .slice A4 d.length c4] 65))
      clear hc3 hc4 hy0 hy1 hy2 hy3
      go_wp2
      exact ⟨⟨i + 1, by omega, by go_num, ⟨below_alloc (below_alloc HB.out _) _⟩, ⟨blk_alloc (blk_alloc BK0.out _) _⟩, ⟨blk_alloc (blk_alloc BK1.out _) _⟩⟩, by simp [intOf]; omega⟩
    · obtain rfl : i = l.length := by omega
      go_wp2
      go_ret
      exact ⟨rfl, HB.out⟩

/-! ### laminalaw17_nothing: function 25 -/
theorem szL_same (l : List Int) : szL l l.length = l := by simp [szL]
theorem btw_same (l : List Int) (o i : Nat) : btwL l l o i = [] := by
  induction i with
  | zero => rfl
  | succ i ih => rw [btwL, ih, if_pos rfl]; rfl
theorem pcN_count (n o : Nat) (ho : o = 16 ∨ o = 32 ∨ o = 64 ∨ o = 128 ∨ o = 256) : pcN n o ≤ n / o + 1 := by unfold pcN; rcases ho with rfl | rfl | rfl | rfl | rfl <;> omega
theorem seg_get (l : List Int) (a m k : Nat) (h : a + m ≤ l.length) (hk : k < m) : (seg l a m)[k]? = some (rd l ((a + k : Nat) : Int)) := by
  unfold seg
  rw [List.getElem?_drop, List.getElem?_take, if_pos (by omega), List.getElem?_eq_getElem (by omega)]
  simp only [rd, Int.toNat_natCast]
  rw [List.getD_eq_getElem?_getD, List.getElem?_eq_getElem (by omega), Option.getD_some]
theorem szL_get (l : List Int) (n j : Nat) (h : j < l.length) (hn : j < n) : rd (szL l n) (j : Int) = rd l (j : Int) := by
  unfold szL
  simp only [rd, Int.toNat_natCast]
  rw [List.getD_eq_getElem?_getD, List.getD_eq_getElem?_getD, List.getElem?_append_left (by simp; omega), List.getElem?_take, if_pos (by omega)]
theorem btw_chg (old fresh : List Int) (o : Nat) (ho : 0 < o) (i : Nat) (hi : ∀ k, k < i → k * o < fresh.length) : ∀ x ∈ btwL (szL old fresh.length) fresh o i, (∃ a m : Nat, x.f0 = a ∧ x.f1 = m ∧ 1 ≤ m ∧ a + m ≤ fresh.length ∧ (a + m ≤ old.length → ∃ j : Nat, a ≤ j ∧ j < a + m ∧ rd old j ≠ rd fresh j)) := by
  induction i with
  | zero => intro x hx; cases hx
  | succ i ih =>
    intro x hx
    have hm := hi i (by omega)
    have hs := btw_seg fresh o i fresh.length rfl hm
    have hb : i * o + pcM fresh.length o i ≤ fresh.length := by unfold pcM; omega
    rw [btwL] at hx
    rcases List.mem_append.1 hx with hx | hx
    · exact ih (fun k hk => hi k (by omega)) x hx
    · generalize pcM fresh.length o i = m at *
      generalize i * o = a at *
      rcases hs with ⟨hs, hp⟩ | h0
      · split at hx
        · cases hx
        · rename_i hne
          rw [List.mem_singleton] at hx
          subst hx
          refine ⟨a, m, rfl, by show ((seg fresh a m).length : Int) = m; rw [hs], hp, hb, fun hle => ?_⟩
          refine Classical.byContradiction fun hno => hne (List.ext_getElem? fun k => ?_)
          by_cases hk : k < m
          · rw [seg_get _ a m k (by rw [szL_len]; exact hb) hk, seg_get _ a m k hb hk, szL_get _ _ _ (by omega) (by omega)]
            refine congrArg some (Classical.byContradiction fun hnn => hno ⟨a + k, by omega, by omega, hnn⟩)
          · rw [List.getElem?_eq_none (by rw [seg_len _ _ _ (by rw [szL_len]; exact hb)]; omega), List.getElem?_eq_none (by omega)]
      · omega
set_option maxRecDepth 100000 in
set_option maxHeartbeats 8000000 in
theorem laminalaw17_nothing.calls (A0 : Option Addr) (c0 : Nat) (l0 : List Int) (A1 : Option Addr) (c1 : Nat) (l1 : List Int) (o p : Int) (w : World) (hr0 : Kd.C (Kd.int .u8) w A0 l0.length l0) (hc0 : l0.length ≤ c0)
    (hr1 : Kd.C (Kd.int .u8) w A1 l1.length l1) (hc1 : l1.length ≤ c1) (hm0 : l0.length ≤ 140737488351232) (hm1 : l1.length ≤ 140737488351232) :
    Calls Try.prog 25 #[.slice A0 l0.length c0, .slice A1 l1.length c1, .int .i64 o, .int .i64 p] w fun e w' => e = .returned (.bool true) ∧ Below w.heap.size w w' := by
  have HR0 := Aside0.mk hr0
  have HR1 := Aside0.mk hr1
  have HAL := fun W => laminalaw17_alive.calls W
  clear hr0 hr1
  by_cases hbig0 : (l0.length : Int) > 4096
  · go_enter Try.func25, Try.ntmps25
    go_wp2_with fail
    refine (HAL _).mono ?_
    rintro e w1 ⟨rfl, hb⟩
    go_wp2
    go_ret
    exact ⟨rfl, hb⟩
  by_cases hbig1 : (l1.length : Int) > 4096
  · go_enter Try.func25, Try.ntmps25
    go_wp2_with fail
    refine (HAL _).mono ?_
    rintro e w1 ⟨rfl, hb⟩
    go_wp2
    go_ret
    exact ⟨rfl, hb⟩
  have h0 : l0.length ≤ 4096 := by omega
  have h1 : l1.length ≤ 4096 := by omega
  have hwf : ∀ n m : Nat, n ≤ 4096 → m ≤ 4096 → szB n o = szB m o := fun n m hn hm => by
    unfold szB
    rw [decide_eq_decide]
    omega
  cases hsz : szB l1.length o
  · have hb0 : btwO l0 l0 o = (0, 0, [], some 1) := if_neg (by rw [hwf _ l1.length h0 h1, hsz]; simp)
    have hb1 : btwO l0 l1 o = (0, 0, [], some 1) := if_neg (by rw [hsz]; simp)
    have HBA := fun W h0 h1 h2 h3 h4 h5 => diff_Between.calls A0 c0 l0 A0 c0 l0 o W h0 h1 h2 h3 h4 h5
    have HBB := fun W h0 h1 h2 h3 h4 h5 => diff_Between.calls A0 c0 l0 A1 c1 l1 o W h0 h1 h2 h3 h4 h5
    rw [hb0] at HBA
    rw [hb1] at HBB
    simp only [errW_some] at HBA HBB
    clear hb0 hb1 hwf hsz
    go_enter Try.func25, Try.ntmps25
    go_wp2_with fail
    refine (HAL _).mono ?_
    rintro e w1 ⟨rfl, hb⟩
    have HB1 := Aside0.mk hb
    clear hb HAL
    go_wp2_with fail
    refine (HBA _ (Kd.C_below HR0.out HB1.out) hc0 (Kd.C_below HR0.out HB1.out) hc0 (by omega) (by omega)).mono ?_
    rintro e w2 ⟨v2, rfl, hs2, hb2⟩
    obtain ⟨A2, c2, rfl⟩ := Kd.S_slice hs2
    have HB2 := Aside0.mk (below_step HB1.out hb2)
    clear hs2 hb2 HBA
    go_wp2_with fail
    have hBD := below_alloc HB2.out (.cells #[.int .i64 0, .int .i64 0, .slice A2 ([] : List S61).length c2] 35)
    refine (HBB _ (Kd.C_below HR0.out hBD) hc0 (Kd.C_below HR1.out hBD) hc1 (by omega) (by omega)).mono ?_
    rintro e w3 ⟨v3, rfl, hs3, hb3⟩
    obtain ⟨A3, c3, rfl⟩ := Kd.S_slice hs3
    have HB3 := Aside0.mk (below_step hBD hb3)
    clear hs3 hb3 HBB hBD
    go_wp2
    go_ret
    exact ⟨rfl, below_alloc HB3.out _⟩
  have hs : 0 ≤ (l1.length : Int) ∧ (l1.length : Int) ≤ 4096 ∧ (o = 16 ∨ o = 32 ∨ o = 64 ∨ o = 128 ∨ o = 256) := by unfold szB at hsz; simpa using hsz
  obtain ⟨on, rfl⟩ := Int.eq_ofNat_of_zero_le (show 0 ≤ o by omega)
  have hon : on = 16 ∨ on = 32 ∨ on = 64 ∨ on = 128 ∨ on = 256 := by omega
  have hb0 : btwO l0 l0 on = ((l0.length : Int), (l0.length : Int), [], none) := by
    unfold btwO
    rw [if_pos ⟨by rw [hwf _ l1.length h0 h1, hsz], h0⟩, szL_same, btw_same]
  have hb1 : btwO l0 l1 on = ((l0.length : Int), (l1.length : Int), btwL (szL l0 l1.length) l1 on (pcN l1.length on), none) := by
    unfold btwO
    rw [if_pos ⟨hsz, h0⟩, Int.toNat_natCast]
  have hql : (btwL (szL l0 l1.length) l1 on (pcN l1.length on)).length ≤ 256 := Nat.le_trans (btwL_len (szL l0 l1.length) l1 on (pcN l1.length on)) (pcN_le l1.length on (by omega) hon)
  have hqc : (btwL (szL l0 l1.length) l1 on (pcN l1.length on)).length ≤ l1.length / on + 1 := Nat.le_trans (btwL_len (szL l0 l1.length) l1 on (pcN l1.length on)) (pcN_count l1.length on hon)
  have hgm := btw_chg l0 l1 on (by omega) (pcN l1.length on) (fun k hk => pcN_lt _ _ _ hon hk)
  have hall := btw_all l0 l1 on (by omega) (by omega) hon
  generalize btwL (szL l0 l1.length) l1 on (pcN l1.length on) = R at *
  have HBA := fun W h0 h1 h2 h3 h4 h5 => diff_Between.calls A0 c0 l0 A0 c0 l0 on W h0 h1 h2 h3 h4 h5
  have HBB := fun W h0 h1 h2 h3 h4 h5 => diff_Between.calls A0 c0 l0 A1 c1 l1 on W h0 h1 h2 h3 h4 h5
  rw [hb0] at HBA
  rw [hb1] at HBB
  simp only [errW_none] at HBA HBB
  have hpo : (btwO l0 l1 p = (0, 0, [], some 1)) ∨ (∃ R2, R2.length ≤ 256 ∧ btwO l0 l1 p = ((l0.length : Int), (l1.length : Int), R2, none) ∧ applyO l0.length l1.length R2 l0 = (l1, none)) := by
    cases hp : szB l1.length p
    · exact .inl (if_neg (by rw [hp]; simp))
    · have hs : 0 ≤ (l1.length : Int) ∧ (l1.length : Int) ≤ 4096 ∧ (p = 16 ∨ p = 32 ∨ p = 64 ∨ p = 128 ∨ p = 256) := by unfold szB at hp; simpa using hp
      obtain ⟨pn, rfl⟩ := Int.eq_ofNat_of_zero_le (show 0 ≤ p by omega)
      have hpn : pn = 16 ∨ pn = 32 ∨ pn = 64 ∨ pn = 128 ∨ pn = 256 := by omega
      refine .inr ⟨_, Nat.le_trans (btwL_len (szL l0 l1.length) l1 pn (pcN l1.length pn)) (pcN_le l1.length pn (by omega) hpn), ?_, btw_all l0 l1 pn (by omega) (by omega) hpn⟩
      unfold btwO
      rw [if_pos ⟨hp, h0⟩, Int.toNat_natCast]
  have HPO := Aside0.mk hpo
  have HGM := Aside0.mk hgm
  have HALL := Aside0.mk hall
  have hon0 : ¬ (on : Int) = 0 := by omega
  have hqc2 : ¬ ((R.length : Int) > (l1.length : Int) / on + 1) := by
    have : ((l1.length / on : Nat) : Int) = (l1.length : Int) / on := by simp
    omega
  have hdv : Int.tdiv (l1.length : Int) on = (l1.length : Int) / on := Int.tdiv_eq_ediv_of_nonneg (by omega)
  have hdn : (0 : Int) ≤ (l1.length : Int) / on := Int.ediv_nonneg (by omega) (by omega)
  have hdl : (l1.length : Int) / on ≤ 4096 := by
    have h := Int.ediv_le_self (a := (l1.length : Int)) on (by omega)
    omega
  clear hpo hgm hall hb0 hb1 hwf hsz hs hon hqc
  go_enter Try.func25, Try.ntmps25
  go_wp2_with fail
  refine (HAL _).mono ?_
  rintro e w1 ⟨rfl, hb⟩
  have HB1 := Aside0.mk hb
  clear hb HAL
  go_wp2_with fail
  refine (HBA _ (Kd.C_below HR0.out HB1.out) hc0 (Kd.C_below HR0.out HB1.out) hc0 (by omega) (by omega)).mono ?_
  rintro e w2 ⟨v2, rfl, hs2, hb2⟩
  obtain ⟨A2, c2, rfl⟩ := Kd.S_slice hs2
  have HB2 := Aside0.mk (below_step HB1.out hb2)
  clear hs2 hb2 HBA
  simp only [List.length_nil]
  go_wp2_with fail
  have hBD := below_alloc HB2.out (.cells #[.int .i64 l0.length, .int .i64 l0.length, .slice A2 0 c2] 35)
  have hKD := blk_new w2 (.cells #[.int .i64 l0.length, .int .i64 l0.length, .slice A2 0 c2] 35)
  refine (HBB _ (Kd.C_below HR0.out hBD) hc0 (Kd.C_below HR1.out hBD) hc1 (by omega) (by omega)).mono ?_
  rintro e w3 ⟨v3, rfl, hs3, hb3⟩
  obtain ⟨A3, c3, rfl⟩ := Kd.S_slice hs3
  have HB3 := Aside0.mk (below_step hBD hb3)
  have HK3 := Aside0.mk (blk_below hKD hb3)
  have HS3 := Aside0.mk hs3
  clear hs3 hb3 HBB hBD hKD
  have HB4 := Aside0.mk (below_alloc HB3.out (.cells #[.int .i64 l0.length, .int .i64 l1.length, .slice A3 R.length c3] 35))
  have HK4 := Aside0.mk (blk_new w3 (.cells #[.int .i64 l0.length, .int .i64 l1.length, .slice A3 R.length c3] 35))
  have HS4 := Aside0.mk (Kd.S_alloc HS3.out (.cells #[.int .i64 l0.length, .int .i64 l1.length, .slice A3 R.length c3] 35))
  have HK3' := Aside0.mk (blk_alloc HK3.out (.cells #[.int .i64 l0.length, .int .i64 l1.length, .slice A3 R.length c3] 35))
  go_wp2_with fail
  generalize hW : (w3.alloc (.cells #[.int .i64 l0.length, .int .i64 l1.length, .slice A3 R.length c3] 35)) = W at *
  clear hW
  have hy2 : W.cell? ⟨w2.heap.size, 2, none⟩ = some (.slice A2 0 c2) := (blk_cell HK3'.out 2).trans rfl
  have hx2 : W.cell? ⟨w3.heap.size, 2, none⟩ = some (.slice A3 R.length c3) := (blk_cell HK4.out 2).trans rfl
  have hw1 : IntKind.i64.wrap ((l1.length : Int) / on + 1) = (l1.length : Int) / on + 1 := IntWalk.i64_in _ (by omega)
  have hw0 : IntKind.i64.wrap ((l1.length : Int) / on) = (l1.length : Int) / on := IntWalk.i64_in _ (by omega)
  go_quiet (fail)
  clear hw1 hw0 hdv hdn hdl hy2
  have HB5 := Aside0.mk (pw_below_drewN HB4.out nq)
  have HK5 := Aside0.mk (blk_drewN HK4.out nq)
  have HS5 := Aside0.mk (Kd.S_drewN HS4.out nq)
  clear HK3 HK3' HS3 HB4 HS4
  clear hx2 HK4
  generalize hV : W.drewN nq = V at *
  clear hV
  have hx2 : V.cell? ⟨w3.heap.size, 2, none⟩ = some (.slice A3 R.length c3) := (blk_cell HK5.out 2).trans rfl
  go_wp2
  go_loopw [68] (fun v68 wr => ∃ i : Nat, i ≤ R.length ∧ v68 = .int .i64 i ∧ Aside0 (Below V.heap.size V wr)) (fun v68 _ => R.length - (intOf v68).toNat)
  case atStart => exact ⟨0, by omega, rfl, ⟨Below.refl _ _⟩⟩
  case round =>
    obtain ⟨i, hi, rfl, HBV⟩ := hrel
    by_cases hlt : i < R.length
    · have hC := Kd.C_below (Kd.R_reads' (Kd.S_R HS5.out)).2.2 HBV.out
      obtain ⟨ad, A6, c6, e6, hz0, hz1, hz2, hz3, hl6, -⟩ := at_T61 hC i (by omega) (by omega)
      subst e6
      have hmem : rd_T61 R i ∈ R := by rw [rdP_mem R i hlt]; exact List.getElem_mem hlt
      obtain ⟨a, m, hf0, hf1, hm1, hm2, hm3⟩ := HGM.out _ hmem
      rw [hf0] at hz0
      rw [hf1] at hz1
      simp only [Int.toNat_natCast] at hz0 hz1 hz2 hz3
      have HM3 := Aside0.mk hm3
      clear hmem hf0 hf1 hC hm3
      generalize rd_T61 R i = r at *
      have hs1 : IntKind.i64.wrap ((a : Int) + m) = (a : Int) + m := IntWalk.i64_in _ (by omega)
      go_wp2
      have HKr := Aside0.mk (blk_new wr (.cells #[.int .i64 a, .int .i64 m, .bool r.f2, .slice A6 r.f3.length c6] 61))
      have HBr := Aside0.mk (below_alloc HBV.out (.cells #[.int .i64 a, .int .i64 m, .bool r.f2, .slice A6 r.f3.length c6] 61))
      clear HBV hz0 hz1 hz2 hz3
      generalize hW2 : wr.alloc (.cells #[.int .i64 a, .int .i64 m, .bool r.f2, .slice A6 r.f3.length c6] 61) = W2 at *
      clear hW2
      generalize wr.heap.size = B at *
      go_loopw [15, 16] (fun v15 v16 wr => ∃ (ch : Bool) (j : Nat), v15 = .bool ch ∧ v16 = .int .i64 j ∧ a ≤ j ∧ j ≤ a + m ∧ Aside0 (ch = true ∨ (a + m ≤ l0.length ∧ ∀ t : Nat, a ≤ t → t < j → rd l0 t = rd l1 t)) ∧ Aside0 (∃ n, wr = W2.drewN n)) (fun _ v16 _ => a + m - (intOf v16).toNat)
      case atStart =>
        refine ⟨decide ((l0.length : Int) < a + m), a, rfl, rfl, Nat.le_refl _, by omega, ⟨?_⟩, ⟨0, rfl⟩⟩
        by_cases h : (l0.length : Int) < a + m
        · exact .inl (decide_eq_true h)
        · exact .inr ⟨by omega, fun t h1 h2 => by omega⟩
      case round =>
        obtain ⟨ch, j, rfl, rfl, hj1, hj2, HCH, ⟨⟨n, rfl⟩⟩⟩ := hrel
        have hz0 : (W2.drewN n).cell? ⟨B, 0, none⟩ = some (.int .i64 a) := (blk_cell (blk_drewN HKr.out n) 0).trans rfl
        have hz1 : (W2.drewN n).cell? ⟨B, 1, none⟩ = some (.int .i64 m) := (blk_cell (blk_drewN HKr.out n) 1).trans rfl
        have HBn := Aside0.mk (pw_below_drewN HBr.out n)
        cases ch
        · by_cases hjm : j < a + m
          · have hle := HCH.out.resolve_left (by simp)
            obtain ⟨ad0, e0, hx0⟩ := Kd.at_int (Kd.C_below HR0.out (HB5.out.trans (HBr.out.mono HB5.out.size))) j (by omega) (by omega)
            obtain ⟨ad1, e1, hx1⟩ := Kd.at_int (Kd.C_below HR1.out (HB5.out.trans (HBr.out.mono HB5.out.size))) j (by omega) (by omega)
            subst e0 e1
            simp only [Int.toNat_natCast] at hx0 hx1
            have hjl1 : j < l1.length := by omega
            have HLE := Aside0.mk hle
            have hl := hle.1
            clear hle
            have hjl0 : j < l0.length := by omega
            by_cases hxy : rd l0 (j : Int) = rd l1 (j : Int)
            · have HXY := Aside0.mk hxy
              rw [hxy] at hx0
              clear hxy
              go_wp2
              go_quiet (fail)
              go_wp2
              refine ⟨⟨false, j + 1, by simp, by go_num, by omega, by omega, ⟨.inr ⟨HLE.out.1, fun t h1 h2 => ?_⟩⟩, ⟨_, rfl⟩⟩, by simp [intOf]; omega⟩
              by_cases ht : t < j
              · exact HLE.out.2 t h1 ht
              · obtain rfl : t = j := by omega
                exact HXY.out
            · have hn : (rd l0 (j : Int) == rd l1 (j : Int)) = false := beq_eq_false_iff_ne.2 hxy
              have HXY := Aside0.mk hxy
              clear hxy
              go_wp2
              go_quiet (fail)
              go_wp2
              exact ⟨⟨true, j + 1, by simp [HXY.out], by go_num, by omega, by omega, ⟨.inl rfl⟩, ⟨_, rfl⟩⟩, by simp [intOf]; omega⟩
          · exfalso
            have hle := HCH.out.resolve_left (by simp)
            obtain ⟨t, h1, h2, h3⟩ := HM3.out hle.1
            exact h3 (hle.2 t h1 (by omega))
        · go_wp2
          all_goals exact ⟨⟨i + 1, by omega, by go_num, HBn⟩, by simp [intOf]; omega⟩
    · obtain rfl : i = R.length := by omega
      have HB6 := Aside0.mk (HB5.out.trans (HBV.out.mono HB5.out.size))
      have HK6 := Aside0.mk (blk_below HK5.out HBV.out)
      have HS6 := Aside0.mk (Kd.S_below HS5.out HBV.out)
      have HBP := fun W h0 h1 h2 h3 h4 h5 => diff_Between.calls A0 c0 l0 A1 c1 l1 p W h0 h1 h2 h3 h4 h5
      clear HB5 HK5 HS5 HBV hx2 HGM
      rcases HPO.out with hp | ⟨R2, hR2, hp, hap2⟩
      · rw [hp] at HBP
        simp only [errW_some] at HBP
        clear hp
        go_wp2_with fail
        refine (HBP _ (Kd.C_below HR0.out HB6.out) hc0 (Kd.C_below HR1.out HB6.out) hc1 (by omega) (by omega)).mono ?_
        rintro e w7 ⟨v7, rfl, hs7, hb7⟩
        obtain ⟨A7, c7, rfl⟩ := Kd.S_slice hs7
        have HB7 := Aside0.mk (below_step HB6.out hb7)
        clear hs7 hb7 HBP
        go_wp2
        go_ret
        exact ⟨rfl, below_alloc HB7.out _⟩
      · rw [hp] at HBP
        simp only [errW_none] at HBP
        have HAP2 := Aside0.mk hap2
        clear hp hap2
        go_wp2_with fail
        refine (HBP _ (Kd.C_below HR0.out HB6.out) hc0 (Kd.C_below HR1.out HB6.out) hc1 (by omega) (by omega)).mono ?_
        rintro e w7 ⟨v7, rfl, hs7, hb7⟩
        obtain ⟨A7, c7, rfl⟩ := Kd.S_slice hs7
        have HB7 := Aside0.mk (below_alloc (below_step HB6.out hb7) (.cells #[.int .i64 l0.length, .int .i64 l1.length, .slice A7 R2.length c7] 35))
        have HK7 := Aside0.mk (blk_new w7 (.cells #[.int .i64 l0.length, .int .i64 l1.length, .slice A7 R2.length c7] 35))
        have HS7 := Aside0.mk (Kd.S_alloc hs7 (.cells #[.int .i64 l0.length, .int .i64 l1.length, .slice A7 R2.length c7] 35))
        have HK67 := Aside0.mk (blk_alloc (blk_below HK6.out hb7) (.cells #[.int .i64 l0.length, .int .i64 l1.length, .slice A7 R2.length c7] 35))
        have HS67 := Aside0.mk (Kd.S_alloc (Kd.S_below HS6.out hb7) (.cells #[.int .i64 l0.length, .int .i64 l1.length, .slice A7 R2.length c7] 35))
        clear hs7 hb7 HBP
        have HX7 := Aside0.mk (Eq.refl (w7.alloc (.cells #[.int .i64 l0.length, .int .i64 l1.length, .slice A7 R2.length c7] 35)))
        have hz0 : (w7.alloc (.cells #[.int .i64 l0.length, .int .i64 l1.length, .slice A7 R2.length c7] 35)).cell? ⟨w3.heap.size, 0, none⟩ = some (.int .i64 l0.length) := (blk_cell HK67.out 0).trans rfl
        have hz1 : (w7.alloc (.cells #[.int .i64 l0.length, .int .i64 l1.length, .slice A7 R2.length c7] 35)).cell? ⟨w3.heap.size, 1, none⟩ = some (.int .i64 l1.length) := (blk_cell HK67.out 1).trans rfl
        have hz2 : (w7.alloc (.cells #[.int .i64 l0.length, .int .i64 l1.length, .slice A7 R2.length c7] 35)).cell? ⟨w3.heap.size, 2, none⟩ = some (.slice A3 R.length c3) := (blk_cell HK67.out 2).trans rfl
        have hap := diff_Apply.calls l0.length l1.length A3 c3 R A0 c0 l0 _ (Kd.R_reads' (Kd.S_R HS67.out)).2.2 (Kd.R_reads' (Kd.S_R HS67.out)).2.1 (Kd.C_below HR0.out HB7.out) hc0 (by omega)
        rw [HALL.out] at hap
        simp only [errW_none] at hap
        have HAP := Aside0.mk hap
        clear hap
        go_wp2_with fail
        refine HAP.out.mono ?_
        rintro e w8 ⟨v8, rfl, ho8, hb8⟩
        obtain ⟨A8, c8, rfl, -⟩ := Kd.R_reads ho8
        have HO8 := Aside0.mk ho8
        have HB8 := Aside0.mk (below_step HB7.out hb8)
        have HK8 := Aside0.mk (blk_below HK7.out hb8)
        have HS8 := Aside0.mk (Kd.S_below HS7.out hb8)
        clear ho8 hb8 HAP hz0 hz1 hz2
        have hz0 : w8.cell? ⟨w7.heap.size, 0, none⟩ = some (.int .i64 l0.length) := (blk_cell HK8.out 0).trans rfl
        have hz1 : w8.cell? ⟨w7.heap.size, 1, none⟩ = some (.int .i64 l1.length) := (blk_cell HK8.out 1).trans rfl
        have hz2 : w8.cell? ⟨w7.heap.size, 2, none⟩ = some (.slice A7 R2.length c7) := (blk_cell HK8.out 2).trans rfl
        have hap := diff_Apply.calls l0.length l1.length A7 c7 R2 A0 c0 l0 _ (Kd.R_reads' (Kd.S_R HS8.out)).2.2 (Kd.R_reads' (Kd.S_R HS8.out)).2.1 (Kd.C_below HR0.out HB8.out) hc0 (by omega)
        rw [HAP2.out] at hap
        simp only [errW_none] at hap
        have HAP := Aside0.mk hap
        clear hap
        go_wp2_with fail
        refine HAP.out.mono ?_
        rintro e w9 ⟨v9, rfl, ho9, hb9⟩
        obtain ⟨A9, c9, rfl, -⟩ := Kd.R_reads ho9
        have HO9 := Aside0.mk (Kd.R_reads' ho9)
        have HO89 := Aside0.mk (Kd.R_reads' (Kd.R_below HO8.out hb9))
        have HB9 := Aside0.mk (below_step HB8.out hb9)
        clear ho9 hb9 HAP hz0 hz1 hz2
        go_wp2_with fail
        refine (laminanum_Same.calls A8 c8 l1 A9 c9 l1 true _ HO89.out.2.2 HO89.out.2.1 HO9.out.2.2 HO9.out.2.1 (same_refl l1)).mono ?_
        rintro e w14 ⟨rfl, ⟨n14, rfl⟩⟩
        go_wp2
        go_ret
        exact ⟨rfl, pw_below_drewN HB9.out _⟩

end Go.Proofs.Ytdehifinipmmcaa.Hp
