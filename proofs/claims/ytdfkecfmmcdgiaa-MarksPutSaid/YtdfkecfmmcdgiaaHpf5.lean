/- Contracts of functions of the given program, and what they lean on: written by this session's own program hprint.py, which lays hand texts into the kit's printer. -/
import Derived.Test.YtdfkecfmmcdgiaaHp0
import Derived.Test.YtdfkecfmmcdgiaaHpaC
import Derived.Test.YtdfkecfmmcdgiaaHpf23
import Derived.Test.YtdfkecfmmcdgiaaHpf9
import Derived.Test.YtdfkecfmmcdgiaaHpf10
import Derived.Test.YtdfkecfmmcdgiaaHpf14
import Derived.Test.YtdfkecfmmcdgiaaHpf15
import Derived.Test.YtdfkecfmmcdgiaaHpf16
import Derived.Test.YtdfkecfmmcdgiaaHpf18
import Derived.Test.YtdfkecfmmcdgiaaHpf24
import Derived.Test.YtdfkecfmmcdgiaaHpf25
import Derived.Test.YtdfkecfmmcdgiaaHpf26
namespace Go.Proofs.Ytdfkecfmmcdgiaa.Hp
open Go.RowKit Go.Proofs.YtdfkecfmmcdgiaaW.PrintWords Go.Proofs.YtdfkecfmmcdgiaaW.PrintLast Go.Proofs.YtdfkecfmmcdgiaaW.PrintMore
attribute [local go_sem] max2_int min2_int max_two min_two max_three min_three max_four min_four   -- for this text's walks alone
set_option linter.unusedVariables false
set_option linter.unusedSimpArgs false

/-! ### laminalaw10_MarksPut: function 5 -/
theorem pack_rd (m : List Int) (q : Nat) (h : q < (m.length + 3) / 4) : rd (packL m) (2 + q : Nat) = quad m q := by
  show (packL m).getD ((2 + q : Nat) : Int).toNat 0 = _
  rw [Int.toNat_natCast, List.getD_eq_getElem?_getD, Nat.add_comm]
  simp [packL, h]
theorem cnt_pack (m : List Int) : cntI (packL m) = m.length := by
  have h0 : rd (packL m) 0 = (m.length : Int) % 256 := rfl
  have h1 : rd (packL m) 1 = (m.length : Int) / 256 := rfl
  unfold cntI
  rw [h0, h1]
  omega
theorem tk_pack (m : List Int) (hm : IsMarks m) : tkL (packL m) = m := by
  apply List.ext_getElem?
  intro j
  unfold tkL
  rw [cnt_pack, Int.toNat_natCast]
  by_cases hj : j < m.length
  · have hq : tkV (packL m) j = rd m j := by
      unfold tkV
      rw [pack_rd m (j / 4) (by omega)]
      have b0 := mk_rd hm (4 * (j / 4))
      have b1 := mk_rd hm (4 * (j / 4) + 1)
      have b2 := mk_rd hm (4 * (j / 4) + 2)
      have b3 := mk_rd hm (4 * (j / 4) + 3)
      unfold quad
      obtain h | h | h | h : j % 4 = 0 ∨ j % 4 = 1 ∨ j % 4 = 2 ∨ j % 4 = 3 := by omega
      · have e : rd m (j : Int) = rd m (4 * (j / 4) : Nat) := by congr 1; omega
        rw [h, e, show (2 : Int) ^ (0 * 2) = 1 by decide]
        omega
      · have e : rd m (j : Int) = rd m (4 * (j / 4) + 1 : Nat) := by congr 1; omega
        rw [h, e, show (2 : Int) ^ (1 * 2) = 4 by decide]
        omega
      · have e : rd m (j : Int) = rd m (4 * (j / 4) + 2 : Nat) := by congr 1; omega
        rw [h, e, show (2 : Int) ^ (2 * 2) = 16 by decide]
        omega
      · have e : rd m (j : Int) = rd m (4 * (j / 4) + 3 : Nat) := by congr 1; omega
        rw [h, e, show (2 : Int) ^ (3 * 2) = 64 by decide]
        omega
    rw [List.getElem?_map, List.getElem?_range hj, Option.map_some, hq, List.getElem?_eq_getElem hj]
    simp [rd, hj]
  · rw [List.getElem?_eq_none (by simp; omega), List.getElem?_eq_none (by omega)]
theorem take_pack (m : List Int) (hm : IsMarks m) : marks_Take.f (packL m) = some (m, none) := by
  have hn := hm.1
  have hlen := pack_len m
  unfold marks_Take.f
  rw [if_pos ⟨pack_bytes m hm, by omega⟩]
  have hok : marks_Take.ok (packL m) := by
    unfold marks_Take.ok
    rw [cnt_pack, tk_pack m hm]
    exact ⟨by omega, by omega, by omega, o_pack m hm⟩
  rw [if_pos hok, tk_pack m hm]
theorem laminalaw10_MarksPut.law (A0 : Option Addr) (c0 : Nat) (l0 : List Int) (w : World) (hr0 : Kd.C (Kd.int .u8) w A0 l0.length l0) (hc0 : l0.length ≤ c0) (_hy0 : l0.length * 1 ≤ 140737488351232) (hw0 : ∀ n ∈ l0, (Lit.int .u8 n).wf = true) :
    Calls Try.prog 5 #[.slice A0 l0.length c0] w fun e w' => e = .returned (.bool true) ∧ Below w.heap.size w w' := by
  have hu27 := Try.underlying27
  have hu33 := Try.underlying33
  have hm := hr0.2.1
  have HR0 := Aside0.mk hr0
  have HW := Aside0.mk (wfs_u8 hw0)
  have HAL := fun W => laminalaw10_alive.calls true W alive10
  clear hr0 hw0
  by_cases hbig : l0.length > 2000
  · have h1 : (l0.length : Int) > 2000 := by omega
    clear hbig
    go_enter Try.func5, Try.ntmps5
    go_wp2_with fail
    refine (HAL _).mono ?_
    rintro e w1 ⟨rfl, hb⟩
    go_wp2
    go_ret
    exact ⟨rfl, hb⟩
  have h1 : ¬ (l0.length : Int) > 2000 := by omega
  have h2 : l0.length ≤ 2000 := by omega
  clear hbig
  have HGD : ∀ (W : World) (r : Bool), decide (l0.length ≤ 256 ∧ ∀ x ∈ l0, x ≤ 3) = r → Kd.C (Kd.int .u8) W A0 l0.length l0 → Calls Try.prog 24 #[.slice A0 l0.length c0] W fun e w' => e = .returned (.bool r) ∧ Drawn0 W w' := by
    intro W r hr hC
    exact laminaref10_Good.calls 400 A0 c0 l0 r W hC hc0 (by rw [rgood_f l0 400 (by omega), hr])
  by_cases hgood : l0.length ≤ 256 ∧ ∀ x ∈ l0, x ≤ 3
  · have him : IsMarks l0 := ⟨hgood.1, fun x hx => ⟨(HW.out x hx).1, hgood.2 x hx⟩⟩
    have HG2 := fun W => HGD W true (decide_eq_true hgood)
    have HPF := Aside0.mk (put_f l0 him)
    have HTF := Aside0.mk (take_pack l0 him)
    have HRF := Aside0.mk (rput_f l0 him 700 (by omega))
    have HPL := Aside0.mk (pack_len l0)
    clear HGD hgood him
    generalize packL l0 = P at *
    go_enter Try.func5, Try.ntmps5
    go_wp2_with fail
    refine (HAL _).mono ?_
    rintro e w1 ⟨rfl, hb1⟩
    have HB1 := Aside0.mk hb1
    clear hb1 HAL
    go_wp2_with fail
    refine (laminanum_Copy.calls A0 c0 l0 _ (Kd.C_below HR0.out HB1.out) (by omega)).mono ?_
    rintro e w2 ⟨g, cap, rfl, hg, hR2, hb2⟩
    have HG := Aside0.mk (show g < w2.heap.size from Kd.R_lt hR2 g rfl)
    have HR2 := Aside0.mk (Kd.R_lower hR2 HB1.out.size)
    have HB2 := Aside0.mk (below_step HB1.out hb2)
    obtain ⟨hC2, hcap⟩ := Kp_C hR2
    have HC2 := Aside0.mk hC2
    clear hR2 hb2 hC2 hg
    go_wp2_with fail
    refine (marks_Put.calls (some ⟨g, 0, none⟩) cap l0 _ _ _ HC2.out (by omega) HPF.out).mono ?_
    rintro e w3 ⟨v3, rfl, ho3, hb3⟩
    obtain ⟨A3, c3, rfl, -⟩ := Kd.R_reads ho3
    have HX3 := Aside0.mk (fun k (hk : (Value.slice A3 P.length c3).ownBlock = some k) => And.intro (Kd.R_base ho3 k hk) (Kd.R_lt ho3 k hk))
    have HSZ := Aside0.mk hb3.size
    have HR3 := Aside0.mk (Kd.R_below HR2.out hb3)
    have HO3 := Aside0.mk (Kd.R_lower ho3 HB2.out.size)
    have HB3 := Aside0.mk (below_step HB2.out hb3)
    clear ho3 hb3
    rw [errW_none]
    go_wp2_with fail
    refine (laminanum_Kept.calls g cap _ _ A0 c0 l0 _ HR3.out (Kd.C_below HR0.out HB3.out) (by omega)).mono ?_
    rintro e w4 ⟨rfl, ⟨n4, rfl⟩⟩
    go_wp2_with fail
    refine (HG2 _ (Kd.C_drewN (Kd.C_below HR0.out HB3.out) _)).mono ?_
    rintro e w5 ⟨rfl, ⟨n5, rfl⟩⟩
    have HC3 := Aside0.mk (Kd.R_reads' HO3.out).2.2
    have hc3 := (Kd.R_reads' HO3.out).2.1
    go_wp2_with fail
    refine (marks_Take.calls A3 c3 P _ _ _ (Kd.C_drewN HC3.out _) hc3 HTF.out).mono ?_
    rintro e w6 ⟨v6, rfl, ho6, hb6⟩
    obtain ⟨A6, c6, rfl, -⟩ := Kd.R_reads ho6
    have HX6 := Aside0.mk (fun k (hk : (Value.slice A6 l0.length c6).ownBlock = some k) => (Kd.R_base ho6 k hk : w3.heap.size ≤ k))
    have HO6 := Aside0.mk (Kd.R_lower ho6 (show w.heap.size ≤ (w3.drewN (n4 + n5)).heap.size from HB3.out.size))
    have HB6 := Aside0.mk (below_step (pw_below_drewN HB3.out (n4 + n5)) hb6)
    have HR6 := Aside0.mk (Kd.R_below (Kd.R_drewN HR3.out (n4 + n5)) hb6)
    have HO36 := Aside0.mk (Kd.R_below (Kd.R_drewN HO3.out (n4 + n5)) hb6)
    clear ho6 hb6
    rw [errW_none]
    clear HTF HPF HR2 HR3 HC2 HB1 HB2 HO3 HC3 hc3 HW
    go_wp2_with fail
    refine (laminaref10_Put.calls 700 A0 c0 l0 _ _ (Kd.C_below HR0.out HB6.out) hc0 HRF.out).mono ?_
    rintro e w7 ⟨v7, rfl, ho7, hb7⟩
    obtain ⟨A7, c7, rfl, -⟩ := Kd.R_reads ho7
    obtain ⟨-, hc7, hC7⟩ := Kd.R_reads' ho7
    have HC7 := Aside0.mk hC7
    have HX := Aside0.mk (Kd.R_below HO6.out hb7)
    have HB := Aside0.mk (Kd.R_below HO36.out hb7)
    have HC := Aside0.mk (Kd.R_below HR6.out hb7)
    have HB7 := Aside0.mk (below_step HB6.out hb7)
    have hcx := (Kd.R_reads' HX.out).2.1
    have hcb := (Kd.R_reads' HB.out).2.1
    have HCX := Aside0.mk (Kd.R_reads' HX.out).2.2
    have HCB := Aside0.mk (Kd.R_reads' HB.out).2.2
    clear ho7 hb7 hC7 HO6 HO36 HR6 HB6 HRF HG2
    go_wp2_with fail
    refine (laminanum_Same.calls A3 c3 P A7 c7 P true _ HCB.out hcb HC7.out hc7 (same_refl P)).mono ?_
    rintro e w8 ⟨rfl, ⟨n8, rfl⟩⟩
    go_wp2_with fail
    refine (laminanum_Same.calls A6 c6 l0 A0 c0 l0 true _ (Kd.C_drewN HCX.out _) hcx (Kd.C_drewN (Kd.C_below HR0.out HB7.out) _) hc0 (same_refl l0)).mono ?_
    rintro e w9 ⟨rfl, ⟨n9, rfl⟩⟩
    have HAP : ∀ n : Nat, Calls Try.prog 18 #[.slice (some ⟨w7.heap.size, 0, none⟩) 3 3] ((w7.drewN n).alloc (.cells #[.slice A6 l0.length c6, .slice A3 P.length c3, .slice (some ⟨g, 0, none⟩) l0.length cap] 22)) fun e w' => e = .returned (.bool true) ∧ Below w.heap.size ((w7.drewN n).alloc (.cells #[.slice A6 l0.length c6, .slice A3 P.length c3, .slice (some ⟨g, 0, none⟩) l0.length cap] 22)) w' := by
      intro n
      have hnp := HPL.out
      have hx : Ow w7 w.heap.size (.slice A6 l0.length c6) l0 := R_Ow HX.out
      have hb : Ow w7 w.heap.size (.slice A3 P.length c3) P := R_Ow HB.out
      have hc : Ow w7 w.heap.size (.slice (some ⟨g, 0, none⟩) l0.length cap) l0 := by
        have := Ow_take (R_Ow HC.out) l0.length (by simp)
        rw [List.take_left] at this
        exact this
      refine laminanum_Apart.calls [.slice A6 l0.length c6, .slice A3 P.length c3, .slice (some ⟨g, 0, none⟩) l0.length cap] (fun i => if i = 1 then P else l0) w7.heap.size 3 w.heap.size _ (heap_alloc_new (w7.drewN n) _) (by simp) (fun i => ?_) (fun i v hi => ?_) (pw_hd ?_) (Nat.le_trans HB7.out.size (by simp))
      · show (if i = 1 then P else l0).length ≤ 100000
        split <;> omega
      · rcases i with _ | _ | _ | i
        · simp at hi; subst hi; exact World.ownsRow.alloc (w := w7.drewN n) hx _
        · simp at hi; subst hi; exact World.ownsRow.alloc (w := w7.drewN n) hb _
        · simp at hi; subst hi; exact World.ownsRow.alloc (w := w7.drewN n) hc _
        · simp at hi
      · have h3 := HX3.out
        have h6 := HX6.out
        have hg := HG.out
        have hsz : (w3.drewN (n4 + n5)).heap.size = w3.heap.size := rfl
        simp only [List.pairwise_cons, List.mem_cons, List.not_mem_nil, or_false, forall_eq_or_imp, forall_eq, List.Pairwise.nil, and_true, false_implies, implies_true]
        refine ⟨⟨fun k hk hk2 => ?_, fun k hk hk2 => ?_⟩, fun k hk hk2 => ?_⟩
        · have := h6 k hk
          have := (h3 k hk2).2
          omega
        · have := h6 k hk
          simp [Value.ownBlock] at hk2
          have := HSZ.out
          omega
        · have := (h3 k hk).1
          simp [Value.ownBlock] at hk2
          omega
    go_wp2_with fail
    refine (HAP _).mono ?_
    rintro e w10 ⟨rfl, hb10⟩
    go_wp2
    go_ret
    exact ⟨rfl, ((pw_below_drewN HB7.out _).alloc HB7.out.size _).trans hb10⟩
  · have HG2 := fun W => HGD W false (decide_eq_false hgood)
    have HPF : Aside0 (marks_Put.f l0 = some ([], some 2)) := ⟨by
      unfold marks_Put.f
      rw [if_neg]
      intro h
      refine hgood ⟨h.1, fun x hx => ?_⟩
      have := List.any_eq_false.1 h.2 x hx
      simp at this
      exact this⟩
    have HIS := fun W => laminanum_Is.calls (some 2) 2 true W (by rfl)
    rw [errW_some] at HIS
    clear HGD hgood
    go_enter Try.func5, Try.ntmps5
    go_wp2_with fail
    refine (HAL _).mono ?_
    rintro e w1 ⟨rfl, hb1⟩
    have HB1 := Aside0.mk hb1
    clear hb1 HAL
    go_wp2_with fail
    refine (laminanum_Copy.calls A0 c0 l0 _ (Kd.C_below HR0.out HB1.out) (by omega)).mono ?_
    rintro e w2 ⟨g, cap, rfl, hg, hR2, hb2⟩
    have HR2 := Aside0.mk hR2
    have HB2 := Aside0.mk (below_step HB1.out hb2)
    obtain ⟨hC2, hcap⟩ := Kp_C hR2
    have HC2 := Aside0.mk hC2
    clear hR2 hb2 hC2 hg
    go_wp2_with fail
    refine (marks_Put.calls (some ⟨g, 0, none⟩) cap l0 _ _ _ HC2.out (by omega) HPF.out).mono ?_
    rintro e w3 ⟨v3, rfl, ho3, hb3⟩
    obtain ⟨A3, c3, rfl, -⟩ := Kd.R_reads ho3
    have HR3 := Aside0.mk (Kd.R_below HR2.out hb3)
    have HB3 := Aside0.mk (below_step HB2.out hb3)
    clear ho3 hb3
    rw [errW_some]
    go_wp2_with fail
    refine (laminanum_Kept.calls g cap _ _ A0 c0 l0 _ HR3.out (Kd.C_below HR0.out HB3.out) (by omega)).mono ?_
    rintro e w4 ⟨rfl, ⟨n4, rfl⟩⟩
    go_wp2_with fail
    refine (HG2 _ (Kd.C_drewN (Kd.C_below HR0.out HB3.out) _)).mono ?_
    rintro e w5 ⟨rfl, ⟨n5, rfl⟩⟩
    go_wp2_with fail
    refine (HIS _).mono ?_
    rintro e w6 ⟨rfl, ⟨n6, rfl⟩⟩
    go_wp2
    go_ret
    exact ⟨rfl, pw_below_drewN HB3.out _⟩

end Go.Proofs.Ytdfkecfmmcdgiaa.Hp
