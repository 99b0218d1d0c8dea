/- Contracts of functions of the given program, and what they lean on: written by this session's own program, out of hand texts laid into the kit's printer. -/
import Derived.Test.YtdehifinipmmcaaHp0
import Derived.Test.YtdehifinipmmcaaHg1
import Derived.Test.YtdehifinipmmcaaHg3
import Derived.Test.YtdehifinipmmcaaHg4
import Derived.Test.YtdehifinipmmcaaHg5
import Derived.Test.YtdehifinipmmcaaHg6
import Derived.Test.YtdehifinipmmcaaHg9
namespace Go.Proofs.Ytdehifinipmmcaa.Hp
open Go.RowKit Go.Proofs.YtdehifinipmmcaaW.PrintWords Go.Proofs.YtdehifinipmmcaaW.PrintLast Go.Proofs.YtdehifinipmmcaaW.PrintMore
attribute [local go_sem] max2_int min2_int max_two min_two max_three min_three max_four min_four   -- for this text's walks alone
set_option linter.unusedVariables false
set_option linter.unusedSimpArgs false

/-! ### diff_Put: function 26 -/
/-- The bytes of a record, and of a diff. -/
def recL (r : S61) : List Int := numL r.f0 ++ (numL r.f1 ++ ([if r.f2 = true then 1 else 0] ++ if r.f2 = true then [] else numL r.f3.length ++ r.f3))
def titleL : List Int := numL 13 ++ [108, 97, 109, 105, 110, 97, 32, 100, 105, 102, 102, 32, 49]
def headL (F T : Int) (n : Nat) : List Int := titleL ++ numL F ++ numL T ++ numL n
def putL (F T : Int) (l : List S61) : List Int := headL F T l.length ++ l.flatMap recL ++ [69]
def putO (F T : Int) (l : List S61) : List Int × Option Int := if goodD F T l = true then (putL F T l, none) else ([], some 2)
theorem headL_len (F T : Int) (n : Nat) : (headL F T n).length = 45 := by simp [headL, titleL, numL_len]
theorem recL_len (r : S61) (h : r.f3.length ≤ 4096) : (recL r).length ≤ 5000 := by
  unfold recL
  cases r.f2 <;> simp [numL_len]
  omega
theorem WrTo.at_ {w w' : World} {B : Nat} {z : Bool} {h : Value} {l : List Int} (x : WrTo w w' (fun i => B ≤ i) z h l) (hB : B ≤ w.heap.size) : Wr w' (fun i => B ≤ i) z h l ∧ Below B w w' :=
  ⟨x.wr.mono (fun i hi => hi.elim id (fun h => by omega)), x.only.below (fun _ h => h) hB⟩
theorem Wr.bound {w : World} {S : Nat → Prop} {z : Bool} {h : Value} {l : List Int} (x : Wr w S z h l) : Wr w (fun i => S i ∧ i < w.heap.size) z h l := by
  rcases x with x | ⟨hz, p, v, rfl, hp, hb, hr⟩
  · exact .inl x
  · exact .inr ⟨hz, p, v, rfl, ⟨hp, blk_size hb⟩, hb, Kd.R_mono (Kd.R_bound hr) (fun k hk => ⟨hk.1, hk.2.2.1⟩)⟩
theorem WrTo.at2 {w w' : World} {B R : Nat} {z : Bool} {h : Value} {l : List Int} (x : WrTo w w' (fun i => B ≤ i ∧ i ≠ R) z h l) (hB : B ≤ w.heap.size) (hR : R < w.heap.size) : (Wr w' (fun i => B ≤ i ∧ i ≠ R) z h l ∧ w.heap.size ≤ w'.heap.size) ∧ Below B w w' ∧ w'.heap[R]? = w.heap[R]? :=
  ⟨⟨x.wr.mono (fun i hi => hi.elim id (fun h => ⟨by omega, by omega⟩)), x.only.size⟩, x.only.below (fun _ h => h.1) hB, x.only.block R hR (fun h => h.2 rfl)⟩
theorem below_cell_ {w w' : World} (hb : Below w.heap.size w w') {p : Addr} {v : Value} (h : w.cell? p = some v) : w'.cell? p = some v := (hb.cell (p := p) (World.block_lt_of_cell? w p h)).trans h
set_option maxRecDepth 100000 in
set_option maxHeartbeats 8000000 in
theorem diff_Put.calls (F T : Int) (A2 : Option Addr) (c2 : Nat) (l2 : List S61) (w : World) (hr2 : Kd.C k61 w A2 l2.length l2) (hc2 : l2.length ≤ c2) (hl2 : l2.length ≤ 1000000) :
    Calls Try.prog 26 #[.agg #[.int .i64 F, .int .i64 T, .slice A2 l2.length c2]] w fun e w' => ∃ v : Value, e = .returned (.tuple #[v, errW (putO F T l2).2]) ∧ Kd.R (Kd.int .u8) 5 w' w.heap.size (fun _ => True) v (putO F T l2).1 ∧ Below w.heap.size w w' := by
  have hu27 := Try.underlying30
  have hu33 := Try.underlying39
  have HG := fun W (hC : Kd.C k61 W A2 l2.length l2) => diff_Good.calls (l2.length + 2) F T A2 c2 l2 _ W hC hc2 (good_f F T l2 hl2 _ (by omega))
  have HR2 := Aside0.mk hr2
  clear hr2
  by_cases hg : goodD F T l2 = true
  case neg =>
    have hO : putO F T l2 = ([], some 2) := if_neg hg
    rw [hO]
    rw [show goodD F T l2 = false by simpa using hg] at HG
    clear hO hg
    go_enter Try.func26, Try.ntmps26
    go_wp2_with fail
    refine (HG _ (Kd.C_alloc HR2.out _)).mono ?_
    rintro e w1 ⟨rfl, hb⟩
    have HB := Aside0.mk (below_step (below_alloc (Below.refl _ _) _) hb)
    clear hb
    go_wp2
    go_ret2
    exact ⟨.slice none 0 0, by simp [errW_some], Kd.R_nil _ _ _ _ _, HB.out⟩
  have hO : putO F T l2 = (putL F T l2, none) := if_pos hg
  rw [hO]
  rw [hg] at HG
  have hg2 : goodR T 0 l2 = true := by unfold goodD at hg; rw [Bool.and_eq_true] at hg; exact hg.2
  have hFT : 0 ≤ F ∧ F ≤ 4096 ∧ 0 ≤ T ∧ T ≤ 4096 := by unfold goodD at hg; rw [Bool.and_eq_true] at hg; simpa using hg.1
  have HGM := Aside0.mk (goodR_mem T l2 0 hg2 (Int.le_refl 0))
  have HHL := Aside0.mk (headL_len F T l2.length)
  clear hO hg hg2
  go_enter Try.func26, Try.ntmps26
  go_wp2_with fail
  refine (HG _ (Kd.C_alloc HR2.out _)).mono ?_
  rintro e w1 ⟨rfl, hb⟩
  have hk := blk_below (blk_new w (.cells #[.int .i64 F, .int .i64 T, .slice A2 l2.length c2] 35)) hb
  have HK1 := Aside0.mk hk
  have HB1 := Aside0.mk (below_step (below_alloc (Below.refl w.heap.size w) _) hb)
  clear hb hk HG
  go_wp2_with fail
  have HW0 : Wr (w1.alloc (.cells #[.slice none 0 0] 73)) (fun i => w1.heap.size ≤ i) false (.pointer (some ⟨w1.heap.size, 0, none⟩)) [] := .inr ⟨rfl, w1.heap.size, .slice none 0 0, rfl, Nat.le_refl _, blk_new w1 _, Kd.R_nil _ _ _ _ _⟩
  refine (wire_Writer_Text.calls _ false _ [] _ _ HW0 (by decide)).mono ?_
  rintro e w2 ⟨rfl, hw2⟩
  obtain ⟨hw2, hb2⟩ := hw2.at_ (by simp)
  have HB2 := Aside0.mk ((below_alloc (Below.refl w1.heap.size w1) _).trans hb2)
  have HW2 := Aside0.mk (show Wr w2 (fun i => w1.heap.size ≤ i) false (.pointer (some ⟨w1.heap.size, 0, none⟩)) titleL from hw2)
  have HK2 := Aside0.mk (blk_below HK1.out HB2.out)
  clear HW0 hw2 hb2
  have hz0 : w2.cell? ⟨w.heap.size, 0, none⟩ = some (.int .i64 F) := (blk_cell HK2.out 0).trans rfl
  have hs2 := HB2.out.size
  go_wp2_with fail
  refine (wire_Writer_Num.calls _ false _ titleL F _ HW2.out (by decide) (by omega) (by omega)).mono ?_
  rintro e w3 ⟨rfl, hw3⟩
  obtain ⟨hw3, hb3⟩ := hw3.at_ hs2
  have HB3 := Aside0.mk (HB2.out.trans hb3)
  have HW3 := Aside0.mk (show Wr w3 (fun i => w1.heap.size ≤ i) false (.pointer (some ⟨w1.heap.size, 0, none⟩)) (titleL ++ numL F) from hw3)
  have HK3 := Aside0.mk (blk_below HK1.out HB3.out)
  have hs3 := HB3.out.size
  clear hw3 hb3 hz0 HW2 HB2 HK2
  have hz1 : w3.cell? ⟨w.heap.size, 1, none⟩ = some (.int .i64 T) := (blk_cell HK3.out 1).trans rfl
  go_wp2_with fail
  refine (wire_Writer_Num.calls _ false _ (titleL ++ numL F) T _ HW3.out (by simp [titleL, numL_len]) (by omega) (by omega)).mono ?_
  rintro e w4 ⟨rfl, hw4⟩
  obtain ⟨hw4, hb4⟩ := hw4.at_ hs3
  have HB4 := Aside0.mk (HB3.out.trans hb4)
  have HW4 := Aside0.mk (show Wr w4 (fun i => w1.heap.size ≤ i) false (.pointer (some ⟨w1.heap.size, 0, none⟩)) (titleL ++ numL F ++ numL T) from hw4)
  have HK4 := Aside0.mk (blk_below HK1.out HB4.out)
  have hs4 := HB4.out.size
  clear hw4 hb4 hz1 HW3 HB3 HK3
  have hz2 : w4.cell? ⟨w.heap.size, 2, none⟩ = some (.slice A2 l2.length c2) := (blk_cell HK4.out 2).trans rfl
  go_wp2_with fail
  refine (wire_Writer_Num.calls _ false _ (titleL ++ numL F ++ numL T) l2.length _ HW4.out (by simp [titleL, numL_len]) (by omega) (by omega)).mono ?_
  rintro e w5 ⟨rfl, hw5⟩
  obtain ⟨hw5, hb5⟩ := hw5.at_ hs4
  have HB5 := Aside0.mk (HB4.out.trans hb5)
  have HW5 := Aside0.mk (show Wr w5 (fun i => w1.heap.size ≤ i) false (.pointer (some ⟨w1.heap.size, 0, none⟩)) (headL F T l2.length) from hw5)
  have HK5 := Aside0.mk (blk_below HK1.out HB5.out)
  have hs5 := HB5.out.size
  clear hw5 hb5 hz2 HW4 HB4 HK4
  have hz2 : w5.cell? ⟨w.heap.size, 2, none⟩ = some (.slice A2 l2.length c2) := (blk_cell HK5.out 2).trans rfl
  go_wp2
  clear hz2
  go_loopw [31] (fun v31 wr => ∃ i : Nat, i ≤ l2.length ∧ v31 = .int .i64 i ∧ Aside0 (Wr wr (fun i => w1.heap.size ≤ i) false (.pointer (some ⟨w1.heap.size, 0, none⟩)) (headL F T l2.length ++ (l2.take i).flatMap recL)) ∧ Aside0 (Below w1.heap.size w1 wr) ∧ Aside0 (((l2.take i).flatMap recL).length ≤ 5000 * i)) (fun v31 _ => l2.length - (intOf v31).toNat)
  case atStart => exact ⟨0, by omega, rfl, ⟨by simpa using HW5.out⟩, HB5, ⟨by simp⟩⟩
  case round =>
    clear HB5 HW5 HK5
    obtain ⟨i, hi, rfl, HW, HB, HLN⟩ := hrel
    by_cases hlt : i < l2.length
    · obtain ⟨ad, A3, c3, e, hx0, hx1, hx2, hx3, hl3, hC3⟩ := at_T61 HR2.out i (by omega) (by omega)
      subst e
      have HBW := Aside0.mk (below_step HB1.out HB.out)
      have HM := Aside0.mk (HGM.out (rd_T61 l2 i) (by simp [rd_T61, hlt]))
      have HTK := Aside0.mk (show (l2.take (i + 1)).flatMap recL = (l2.take i).flatMap recL ++ recL (rd_T61 l2 i) by rw [List.take_succ_eq_append_getElem hlt, List.flatMap_append]; simp [rd_T61, hlt])
      have hx0 := below_cell_ HBW.out hx0
      have hx1 := below_cell_ HBW.out hx1
      have hx2 := below_cell_ HBW.out hx2
      have hx3 := below_cell_ HBW.out hx3
      have HCd := Aside0.mk (Rk.of_C hC3)
      clear hC3
      simp only [Int.toNat_natCast] at hx0 hx1 hx2 hx3
      generalize rd_T61 l2 i = r at *
      obtain ⟨r0, r1, z, d⟩ := r
      have hm := HM.out
      simp only at hm hx0 hx1 hx2 hx3 hl3
      have HCd : Aside0 (Rk .u8 w (fun i => i < w.heap.size) A3 d) := HCd
      have hd : d.length ≤ 4096 := by have := hm.2.2.2.2; split at this <;> omega
      have HRL := Aside0.mk (recL_len ⟨r0, r1, z, d⟩ hd)
      have hi2 : i < 1000000 := by omega
      have hr0 : 0 ≤ r0 ∧ r0 ≤ 4096 := by omega
      have hr1 : 0 ≤ r1 ∧ r1 ≤ 4096 := by omega
      have hH : (headL F T l2.length ++ (l2.take i).flatMap recL).length ≤ 5000000045 := by rw [List.length_append, HHL.out]; have := HLN.out; omega
      have HH := Aside0.mk hH
      have HTT := Aside0.mk (show headL F T l2.length ++ (l2.take (i + 1)).flatMap recL = (headL F T l2.length ++ (l2.take i).flatMap recL) ++ recL ⟨r0, r1, z, d⟩ by rw [HTK.out, List.append_assoc])
      have HLN2 := Aside0.mk (show ((l2.take (i + 1)).flatMap recL).length ≤ 5000 * (i + 1) by rw [HTK.out, List.length_append]; have := HLN.out; have := HRL.out; omega)
      clear hH hm HRL HM HTK
      have HREC := Aside0.mk (show recL ⟨r0, r1, z, d⟩ = numL r0 ++ (numL r1 ++ ([if z = true then 1 else 0] ++ if z = true then [] else numL d.length ++ d)) from rfl)
      generalize headL F T l2.length ++ (l2.take i).flatMap recL = H at *
      generalize recL ⟨r0, r1, z, d⟩ = RL at *
      go_wp2_with fail
      have HK0 := Aside0.mk (blk_new wr (.cells #[.int .i64 r0, .int .i64 r1, .bool z, .slice A3 d.length c3] 61))
      have HW0 := Aside0.mk ((HW.out.bound.mono (T := fun i => w1.heap.size ≤ i ∧ i ≠ wr.heap.size) (fun i hi => ⟨hi.1, Nat.ne_of_lt hi.2⟩)).below (below_alloc (Below.refl wr.heap.size wr) (.cells #[.int .i64 r0, .int .i64 r1, .bool z, .slice A3 d.length c3] 61)))
      have HB0 := Aside0.mk (below_alloc HB.out (.cells #[.int .i64 r0, .int .i64 r1, .bool z, .slice A3 d.length c3] 61))
      have hR0 : wr.heap.size < (wr.alloc (.cells #[.int .i64 r0, .int .i64 r1, .bool z, .slice A3 d.length c3] 61)).heap.size := by simp
      have hs0 := HB0.out.size
      clear hx0 hx1 hx2 hx3 HW HB HBW
      generalize hW : (wr.alloc (.cells #[.int .i64 r0, .int .i64 r1, .bool z, .slice A3 d.length c3] 61)) = W0 at *
      clear hW
      generalize wr.heap.size = R at *
      refine (wire_Writer_Num.calls _ false _ H r0 _ HW0.out (by have := HH.out; omega) (by omega) (by omega)).mono ?_
      rintro e w6 ⟨rfl, hw6⟩
      obtain ⟨hw6, hb6, hk6⟩ := hw6.at2 hs0 hR0
      have hR6 := Nat.lt_of_lt_of_le hR0 hw6.2
      have HB6 := Aside0.mk (HB0.out.trans hb6)
      have HK6 := Aside0.mk (hk6.trans HK0.out)
      have HW6 := Aside0.mk (show Wr w6 (fun i => w1.heap.size ≤ i ∧ i ≠ R) false (.pointer (some ⟨w1.heap.size, 0, none⟩)) (H ++ numL r0) from hw6.1)
      have hs6 := HB6.out.size
      clear hw6 hb6 hk6 HW0 HB0 HK0
      have hz1 : w6.cell? ⟨R, 1, none⟩ = some (.int .i64 r1) := (blk_cell HK6.out 1).trans rfl
      go_wp2_with fail
      refine (wire_Writer_Num.calls _ false _ (H ++ numL r0) r1 _ HW6.out (by rw [List.length_append, numL_len]; have := HH.out; omega) (by omega) (by omega)).mono ?_
      rintro e w7 ⟨rfl, hw7⟩
      obtain ⟨hw7, hb7, hk7⟩ := hw7.at2 hs6 hR6
      have hR7 := Nat.lt_of_lt_of_le hR6 hw7.2
      have HB7 := Aside0.mk (HB6.out.trans hb7)
      have HK7 := Aside0.mk (hk7.trans HK6.out)
      have HW7 := Aside0.mk (show Wr w7 (fun i => w1.heap.size ≤ i ∧ i ≠ R) false (.pointer (some ⟨w1.heap.size, 0, none⟩)) (H ++ numL r0 ++ numL r1) from hw7.1)
      have hs7 := HB7.out.size
      clear hw7 hb7 hk7 HW6 HB6 HK6 hz1
      have hz2 : w7.cell? ⟨R, 2, none⟩ = some (.bool z) := (blk_cell HK7.out 2).trans rfl
      go_wp2_with fail
      refine (wire_Writer_Flag.calls _ false _ (H ++ numL r0 ++ numL r1) z _ HW7.out (by rw [List.length_append, List.length_append, numL_len, numL_len]; have := HH.out; omega)).mono ?_
      rintro e w8 ⟨rfl, hw8⟩
      obtain ⟨hw8, hb8, hk8⟩ := hw8.at2 hs7 hR7
      have hR8 := Nat.lt_of_lt_of_le hR7 hw8.2
      have HB8 := Aside0.mk (HB7.out.trans hb8)
      have HK8 := Aside0.mk (hk8.trans HK7.out)
      have HW8 := Aside0.mk (show Wr w8 (fun i => w1.heap.size ≤ i ∧ i ≠ R) false (.pointer (some ⟨w1.heap.size, 0, none⟩)) (H ++ numL r0 ++ numL r1 ++ [if z = true then 1 else 0]) from hw8.1)
      have hs8 := HB8.out.size
      clear hw8 hb8 hk8 HW7 HB7 HK7 hz2
      have hz2 : w8.cell? ⟨R, 2, none⟩ = some (.bool z) := (blk_cell HK8.out 2).trans rfl
      have hz3 : w8.cell? ⟨R, 3, none⟩ = some (.slice A3 d.length c3) := (blk_cell HK8.out 3).trans rfl
      cases z
      · go_wp2_with fail
        refine (wire_Writer_Bytes.calls _ false _ (H ++ numL r0 ++ numL r1 ++ [if false = true then 1 else 0]) (fun i => i < w.heap.size) A3 c3 d _ HW8.out (HCd.out.old (below_step HB1.out HB8.out)) (fun i hi h => by have := HB1.out.size; omega) (by rw [List.length_append, List.length_append, List.length_append, numL_len, numL_len]; have := HH.out; simp; omega)).mono ?_
        rintro e w9 ⟨rfl, hw9⟩
        obtain ⟨hw9, hb9, hk9⟩ := hw9.at2 hs8 hR8
        have HB9 := Aside0.mk (HB8.out.trans hb9)
        have HW9 := Aside0.mk (show Wr w9 (fun i => w1.heap.size ≤ i ∧ i ≠ R) false (.pointer (some ⟨w1.heap.size, 0, none⟩)) ((H ++ numL r0 ++ numL r1 ++ [if false = true then 1 else 0]) ++ (numL d.length ++ d)) from hw9.1)
        clear hw9 hb9 hk9 HW8 HB8 HK8 hz2 hz3
        go_wp2
        refine ⟨⟨i + 1, by omega, by go_num, ⟨?_⟩, HB9, HLN2⟩, by simp [intOf]; omega⟩
        rw [HTT.out, HREC.out]
        have := HW9.out.mono (T := fun i => w1.heap.size ≤ i) (fun i hi => hi.1)
        simpa using this
      · go_wp2
        refine ⟨⟨i + 1, by omega, by go_num, ⟨?_⟩, HB8, HLN2⟩, by simp [intOf]; omega⟩
        rw [HTT.out, HREC.out]
        have := HW8.out.mono (T := fun i => w1.heap.size ≤ i) (fun i hi => hi.1)
        simpa using this
    · obtain rfl : i = l2.length := by omega
      have hH : (headL F T l2.length ++ (l2.take l2.length).flatMap recL).length ≤ 5000000045 := by rw [List.length_append, HHL.out]; have := HLN.out; omega
      have HPU := Aside0.mk (show putL F T l2 = (headL F T l2.length ++ (l2.take l2.length).flatMap recL) ++ [69] by rw [List.take_of_length_le (Nat.le_refl _)]; rfl)
      generalize headL F T l2.length ++ (l2.take l2.length).flatMap recL = H at *
      have hsr := HB.out.size
      go_wp2_with fail
      refine (wire_Writer_Byte.calls _ false _ H 69 _ HW.out (by omega)).mono ?_
      rintro e w6 ⟨rfl, hw6⟩
      obtain ⟨hw6, hb6⟩ := hw6.at_ hsr
      have HB6 := Aside0.mk (HB.out.trans hb6)
      have HW6 := Aside0.mk (show Wr w6 (fun i => w1.heap.size ≤ i) false (.pointer (some ⟨w1.heap.size, 0, none⟩)) (H ++ [69]) from hw6)
      clear hw6 hb6
      go_wp2_with fail
      refine (wire_Writer_Out.calls _ false _ (H ++ [69]) _ HW6.out (by rw [List.length_append]; simp; omega)).mono ?_
      rintro e w7 ⟨v7, rfl, ho7, hb7⟩
      obtain ⟨A7, c7, rfl, -⟩ := Kd.R_reads ho7
      have HO7 := Aside0.mk (Kd.R_lower ho7 (below_step HB1.out HB6.out).size)
      have HB7 := Aside0.mk (below_step (below_step HB1.out HB6.out) hb7)
      clear ho7 hb7
      go_wp2
      go_ret2
      exact ⟨.slice A7 (H ++ [69]).length c7, by simp [errW_none], by rw [HPU.out]; exact HO7.out, HB7.out⟩

-- AUX dread
def rdRec (l : List Int) (bad : Bool) : S61 × List Int × Bool :=
  if (flagS (numS (numS l bad).2.1 (numS l bad).2.2).2.1 (numS (numS l bad).2.1 (numS l bad).2.2).2.2).1 = true then
    (⟨(numS l bad).1, (numS (numS l bad).2.1 (numS l bad).2.2).1, true, []⟩, (flagS (numS (numS l bad).2.1 (numS l bad).2.2).2.1 (numS (numS l bad).2.1 (numS l bad).2.2).2.2).2.1, (flagS (numS (numS l bad).2.1 (numS l bad).2.2).2.1 (numS (numS l bad).2.1 (numS l bad).2.2).2.2).2.2)
  else (⟨(numS l bad).1, (numS (numS l bad).2.1 (numS l bad).2.2).1, false, (bytesS (flagS (numS (numS l bad).2.1 (numS l bad).2.2).2.1 (numS (numS l bad).2.1 (numS l bad).2.2).2.2).2.1 (flagS (numS (numS l bad).2.1 (numS l bad).2.2).2.1 (numS (numS l bad).2.1 (numS l bad).2.2).2.2).2.2).1⟩,
    (bytesS (flagS (numS (numS l bad).2.1 (numS l bad).2.2).2.1 (numS (numS l bad).2.1 (numS l bad).2.2).2.2).2.1 (flagS (numS (numS l bad).2.1 (numS l bad).2.2).2.1 (numS (numS l bad).2.1 (numS l bad).2.2).2.2).2.2).2.1, (bytesS (flagS (numS (numS l bad).2.1 (numS l bad).2.2).2.1 (numS (numS l bad).2.1 (numS l bad).2.2).2.2).2.1 (flagS (numS (numS l bad).2.1 (numS l bad).2.2).2.1 (numS (numS l bad).2.1 (numS l bad).2.2).2.2).2.2).2.2)
def stR : Nat → List Int → Bool → List S61 × List Int × Bool
  | 0, l, bad => ([], l, bad)
  | k + 1, l, bad => ((stR k l bad).1 ++ [(rdRec (stR k l bad).2.1 (stR k l bad).2.2).1], (rdRec (stR k l bad).2.1 (stR k l bad).2.2).2.1, (rdRec (stR k l bad).2.1 (stR k l bad).2.2).2.2)
theorem stR_len (k : Nat) (l : List Int) (bad : Bool) : (stR k l bad).1.length = k := by
  induction k with
  | zero => rfl
  | succ k ih => simp only [stR, List.length_append, ih]; rfl
theorem tkS_len {n : Int} {l b r : List Int} {bad : Bool} (h : tkS n l bad = some (b, r)) : r.length ≤ l.length ∧ b.length ≤ l.length := by
  obtain ⟨-, -, -, rfl, rfl⟩ := tkS_some h
  simp only [List.length_take, List.length_drop]
  omega
theorem numS_lt (l : List Int) (bad : Bool) (h : 0 < l.length) : (numS l bad).2.1.length < l.length := by
  unfold numS
  split
  · rename_i b r h2
    obtain ⟨-, -, h3, -, rfl⟩ := tkS_some h2
    show (l.drop (8 : Int).toNat).length < l.length
    rw [List.length_drop]
    have : (8 : Int).toNat = 8 := rfl
    omega
  · exact h
theorem numS_le (l : List Int) (bad : Bool) : (numS l bad).2.1.length ≤ l.length := by
  unfold numS
  split
  · rename_i b r h2
    exact (tkS_len h2).1
  · exact Nat.zero_le _
theorem byteS_le (l : List Int) (bad : Bool) : (byteS l bad).2.1.length ≤ l.length := by
  unfold byteS
  split
  · rename_i b r h2
    exact (tkS_len h2).1
  · exact Nat.zero_le _
theorem flagS_le (l : List Int) (bad : Bool) : (flagS l bad).2.1.length ≤ l.length := by
  unfold flagS
  split
  · exact Nat.zero_le _
  · exact byteS_le l bad
theorem bytesS_le (l : List Int) (bad : Bool) : (bytesS l bad).2.1.length ≤ l.length ∧ (bytesS l bad).1.length ≤ l.length := by
  have h := numS_le l bad
  unfold bytesS
  split
  · rename_i b r h2
    have := tkS_len h2
    exact ⟨by show r.length ≤ _; omega, by show b.length ≤ _; omega⟩
  · exact ⟨Nat.zero_le _, Nat.zero_le _⟩
theorem rdRec_lt (l : List Int) (bad : Bool) (h : 0 < l.length) : (rdRec l bad).2.1.length < l.length := by
  have h1 := numS_lt l bad h
  have h2 := numS_le (numS l bad).2.1 (numS l bad).2.2
  have h3 := flagS_le (numS (numS l bad).2.1 (numS l bad).2.2).2.1 (numS (numS l bad).2.1 (numS l bad).2.2).2.2
  have h4 := (bytesS_le (flagS (numS (numS l bad).2.1 (numS l bad).2.2).2.1 (numS (numS l bad).2.1 (numS l bad).2.2).2.2).2.1 (flagS (numS (numS l bad).2.1 (numS l bad).2.2).2.1 (numS (numS l bad).2.1 (numS l bad).2.2).2.2).2.2).1
  unfold rdRec
  split
  · dsimp only; omega
  · dsimp only; omega
/-- A record that stands in a good diff. -/
structure RecOk (r : S61) : Prop where
  a0 : 0 ≤ r.f0 ∧ r.f0 ≤ 4096
  a1 : 0 ≤ r.f1 ∧ r.f1 ≤ 4096
  a3 : r.f3.length ≤ 4096
  z : r.f2 = true → r.f3 = []
theorem rdRec_back (r : S61) (h : RecOk r) (rest : List Int) : rdRec (recL r ++ rest) false = (r, rest, false) := by
  obtain ⟨r0, r1, z, d⟩ := r
  obtain ⟨h0, h1, h3, hz⟩ := h
  simp only at h0 h1 h3 hz
  have e : recL ⟨r0, r1, z, d⟩ ++ rest = numL r0 ++ (numL r1 ++ ([if z = true then 1 else 0] ++ ((if z = true then [] else numL d.length ++ d) ++ rest))) := by
    unfold recL
    simp only [List.append_assoc]
  have b1 := num_back r0 (numL r1 ++ ([if z = true then 1 else 0] ++ ((if z = true then [] else numL d.length ++ d) ++ rest))) (by omega) (by omega)
  have b2 := num_back r1 ([if z = true then 1 else 0] ++ ((if z = true then [] else numL d.length ++ d) ++ rest)) (by omega) (by omega)
  have b3 := flag_back z ((if z = true then [] else numL d.length ++ d) ++ rest)
  rw [e]
  unfold rdRec
  rw [b1]
  simp only
  rw [b2]
  simp only
  rw [b3]
  cases z
  · simp only [Bool.false_eq_true, if_false]
    rw [bytes_back d rest (by omega)]
  · simp only [if_true, List.nil_append]
    rw [hz rfl]
theorem stR_back (l : List S61) (h : ∀ r ∈ l, RecOk r) (tail : List Int) : ∀ k : Nat, k ≤ l.length → stR k (l.flatMap recL ++ tail) false = (l.take k, (l.drop k).flatMap recL ++ tail, false) := by
  intro k
  induction k with
  | zero => intro _; simp [stR]
  | succ k ih =>
    intro hk
    have e : (l.drop k).flatMap recL = recL l[k] ++ (l.drop (k + 1)).flatMap recL := by rw [List.drop_eq_getElem_cons (show k < l.length by omega)]; rfl
    simp only [stR]
    rw [ih (by omega)]
    simp only
    rw [e, List.append_assoc, rdRec_back _ (h _ (List.getElem_mem (by omega))), List.take_succ_eq_append_getElem (show k < l.length by omega)]
theorem goodR_count (T : Int) : ∀ (l : List S61) (a : Int), goodR T a l = true → l = [] ∨ a + l.length ≤ T
  | [], _, _ => .inl rfl
  | r :: l, a, h => by
    obtain ⟨hx, hl⟩ := (goodR_cons T a r l).1 h
    right
    rcases goodR_count T l _ hl with rfl | h2
    · simp; omega
    · simp; omega
theorem good_recs {F T : Int} {l : List S61} (h : goodD F T l = true) : (0 ≤ F ∧ F ≤ 4096 ∧ 0 ≤ T ∧ T ≤ 4096) ∧ l.length ≤ 4096 ∧ ∀ r ∈ l, RecOk r := by
  unfold goodD at h
  rw [Bool.and_eq_true, decide_eq_true_eq] at h
  obtain ⟨hF, hg⟩ := h
  refine ⟨hF, ?_, fun r hr => ?_⟩
  · rcases goodR_count T l 0 hg with rfl | h
    · exact Nat.zero_le _
    · omega
  · have := goodR_mem T l 0 hg (Int.le_refl 0) r hr
    refine ⟨by omega, by omega, ?_, fun hz => ?_⟩
    · have := this.2.2.2.2; split at this <;> omega
    · have := this.2.2.2.2
      rw [hz, if_pos rfl] at this
      exact List.eq_nil_of_length_eq_zero (by omega)
/-- A stream of a diff. -/
def OkD (b : List Int) : Prop := ∃ F T l, goodD F T l = true ∧ putL F T l = b
def ttL : List Int := [108, 97, 109, 105, 110, 97, 32, 100, 105, 102, 102, 32, 49]
theorem put_open {F T : Int} {l : List S61} (h : goodD F T l = true) : bytesS (putL F T l) false = (ttL, numL F ++ (numL T ++ (numL l.length ++ (l.flatMap recL ++ [69]))), false) ∧
    numS (numL F ++ (numL T ++ (numL l.length ++ (l.flatMap recL ++ [69])))) false = (F, numL T ++ (numL l.length ++ (l.flatMap recL ++ [69])), false) ∧
    numS (numL T ++ (numL l.length ++ (l.flatMap recL ++ [69]))) false = (T, numL l.length ++ (l.flatMap recL ++ [69]), false) ∧
    numS (numL l.length ++ (l.flatMap recL ++ [69])) false = ((l.length : Int), l.flatMap recL ++ [69], false) := by
  obtain ⟨hF, hl, _⟩ := good_recs h
  refine ⟨?_, num_back _ _ (by omega) (by omega), num_back _ _ (by omega) (by omega), num_back _ _ (by omega) (by omega)⟩
  have e : putL F T l = (numL ttL.length ++ ttL) ++ (numL F ++ (numL T ++ (numL l.length ++ (l.flatMap recL ++ [69])))) := by
    unfold putL headL titleL
    simp only [List.append_assoc]
    rfl
  rw [e, bytes_back ttL _ (by decide)]
/-- The parts of the head as they are read. -/
def rTt (b : List Int) := bytesS b false
def rFr (b : List Int) := numS (rTt b).2.1 (rTt b).2.2
def rTo (b : List Int) := numS (rFr b).2.1 (rFr b).2.2
def rNn (b : List Int) := numS (rTo b).2.1 (rTo b).2.2
def rSt (k : Nat) (b : List Int) := stR k (rNn b).2.1 (rNn b).2.2
def rLa (k : Nat) (b : List Int) := byteS (rSt k b).2.1 (rSt k b).2.2
/-- Behind k records all is as it must be. -/
def OkK (k : Nat) (b : List Int) : Prop := goodD (rFr b).1 (rTo b).1 (rSt k b).1 = true ∧ (rTt b).1 = ttL ∧ (rLa k b).1 = 69 ∧ endE (rLa k b).2.1 (rLa k b).2.2 = none ∧ putL (rFr b).1 (rTo b).1 (rSt k b).1 = b
theorem okK_ok {k : Nat} {b : List Int} (h : OkK k b) : OkD b := ⟨_, _, _, h.1, h.2.2.2.2⟩
/-- What is read of a diff's stream is the diff. -/
theorem read_back {F T : Int} {l : List S61} (h : goodD F T l = true) : (rTt (putL F T l)).1 = ttL ∧ (rFr (putL F T l)).1 = F ∧ (rTo (putL F T l)).1 = T ∧ (rNn (putL F T l)).1 = l.length ∧ (rNn (putL F T l)).2.2 = false ∧
    ∀ k : Nat, k ≤ l.length → rSt k (putL F T l) = (l.take k, (l.drop k).flatMap recL ++ [69], false) := by
  obtain ⟨h1, h2, h3, h4⟩ := put_open h
  obtain ⟨-, -, hr⟩ := good_recs h
  have e1 : rTt (putL F T l) = (ttL, numL F ++ (numL T ++ (numL l.length ++ (l.flatMap recL ++ [69]))), false) := h1
  have e2 : rFr (putL F T l) = (F, numL T ++ (numL l.length ++ (l.flatMap recL ++ [69])), false) := by unfold rFr; rw [e1]; exact h2
  have e3 : rTo (putL F T l) = (T, numL l.length ++ (l.flatMap recL ++ [69]), false) := by unfold rTo; rw [e2]; exact h3
  have e4 : rNn (putL F T l) = ((l.length : Int), l.flatMap recL ++ [69], false) := by unfold rNn; rw [e3]; exact h4
  refine ⟨by rw [e1], by rw [e2], by rw [e3], by rw [e4], by rw [e4], fun k hk => ?_⟩
  unfold rSt
  rw [e4]
  exact stR_back l hr [69] k hk
theorem read_all {F T : Int} {l : List S61} (h : goodD F T l = true) : OkK l.length (putL F T l) ∧ (rSt l.length (putL F T l)).1 = l := by
  obtain ⟨h1, h2, h3, h4, h5, h6⟩ := read_back h
  have h7 := h6 l.length (Nat.le_refl _)
  rw [List.take_length, List.drop_length] at h7
  have e8 : rLa l.length (putL F T l) = (69, [], false) := by unfold rLa; rw [h7]; exact byte_back 69 []
  refine ⟨⟨by rw [h2, h3, h7]; exact h, h1, by rw [e8], by rw [e8]; rfl, by rw [h2, h3, h7]⟩, by rw [h7]⟩
/-- Where reading stops behind k records: the bytes are a stream just if all is as it must be. -/
theorem stop_ok {k : Nat} {b : List Int} (h1 : k = 0 ∨ (k : Int) ≤ (rNn b).1) (h2 : ¬ ((k : Int) < (rNn b).1 ∧ 0 < (rSt k b).2.1.length)) (h : OkD b) : OkK k b := by
  obtain ⟨F, T, l, hg, rfl⟩ := h
  obtain ⟨e1, e2, e3, e4, e5, e6⟩ := read_back hg
  have hk : k ≤ l.length := by rw [e4] at h1; omega
  have hkl : k = l.length := by
    rcases Nat.lt_or_ge k l.length with h | h
    · exfalso
      apply h2
      rw [e4, e6 k hk]
      exact ⟨by omega, by simp⟩
    · omega
  rw [hkl]
  exact (read_all hg).1

end Go.Proofs.Ytdehifinipmmcaa.Hp
