/- Contracts of functions of the given program, and what they lean on: written by this session's own program, out of hand texts laid into the kit's printer. -/
import Derived.Deep.QuietTactic
import Derived.BigQuiet
import Derived.Deep.RegionWith
import Derived.Deep.DeepMust
import Derived.Test.YtibpbihcbgcedaaHp0
import Derived.Test.YtibpbihcbgcedaaHg1
import Derived.Test.YtibpbihcbgcedaaHg2
namespace Go.Proofs.Ytibpbihcbgcedaa.Hp
open Go.RowKit Go.Proofs.YtibpbihcbgcedaaW.PrintWords Go.Proofs.YtibpbihcbgcedaaW.PrintLast Go.Proofs.YtibpbihcbgcedaaW.PrintMore
attribute [local go_sem] max2_int min2_int max_two min_two max_three min_three max_four min_four   -- for this text's walks alone
set_option linter.unusedVariables false
set_option linter.unusedSimpArgs false

/-! ### laminalaw03_WireReads: function 4 -/
theorem quiet_back {P : Program} {f : FuncId} {args : Array Value} {w : World} {n : Nat} {v : Value} (h : Calls P f args (w.drewN n) fun e w' => e = .returned v ∧ w.drewN n = w') : Calls P f args (w.drewN n) fun e w'' => e = .returned v ∧ ∃ m, w'' = w.drewN m := h.mono fun _ _ ⟨he, hm⟩ => ⟨he, n, hm.symm⟩
theorem rdS_len (kind : Int) (l : List Int) (bad : Bool) : (rdS kind l bad).1.length ≤ l.length := by
  have h1 := byteS_len l bad
  have h2 := numS_len l bad
  have h3 : (flagS l bad).2.1.length ≤ l.length := by
    unfold flagS
    split
    · simp
    · exact h1
  have h4 : (bytesS l bad).2.1.length ≤ l.length := by
    unfold bytesS
    split
    · rename_i b r h
      obtain ⟨_, _, _, _, rfl⟩ := tkS_some h
      simp only [List.length_drop]
      omega
    · simp
  have h5 : ∀ k (l : List Int) (bad : Bool), (numsR k l bad).2.1.length ≤ l.length := by
    intro k
    induction k with
    | zero => intro l bad; exact Nat.le_refl _
    | succ k ih =>
      intro l bad
      have := ih l bad
      have := numS_len (numsR k l bad).2.1 (numsR k l bad).2.2
      simp only [numsR]
      omega
  have h6 : (numsS l bad).2.1.length ≤ l.length := by
    unfold numsS
    split
    · simp
    · have := h5 (numS l bad).1.toNat (numS l bad).2.1 (numS l bad).2.2
      omega
  unfold rdS
  repeat' split
  all_goals assumption
set_option maxHeartbeats 4000000 in
theorem laminalaw03_WireReads.law (A0 : Option Addr) (c0 : Nat) (l0 : List Int) (A1 : Option Addr) (c1 : Nat) (l1 : List Int) (w : World) (hr0 : Kd.C (Kd.int .u8) w A0 l0.length l0) (hc0 : l0.length ≤ c0) (hy0 : l0.length * 1 ≤ 140737488351232) (hw0 : ∀ n ∈ l0, (Lit.int .u8 n).wf = true)
    (hr1 : Kd.C (Kd.int .i64) w A1 l1.length l1) (hc1 : l1.length ≤ c1) (hy1 : l1.length * 8 ≤ 140737488351232) (hw1 : ∀ n ∈ l1, (Lit.int .i64 n).wf = true) :
    Calls Try.prog 4 #[.slice A0 l0.length c0, .slice A1 l1.length c1] w fun e w' => e = .returned (.bool true) ∧ Below w.heap.size w w' := by
  have hu46 := Try.underlying46
  have hu49 := Try.underlying49
  have HR0 := Aside0.mk hr0
  have HR1 := Aside0.mk hr1
  have HB0 := Aside0.mk (wfs_u8 hw0)
  have HAL := fun W => laminalaw03_alive.calls W
  clear hr0 hr1 hw0 hw1
  by_cases hb0 : (l0.length : Int) > 3000
  · skip
    go_enter Try.func4, Try.ntmps4
    go_wp2_with fail
    refine (HAL _).mono ?_
    rintro e w1 ⟨rfl, hb⟩
    go_wp2
    go_ret
    exact ⟨rfl, hb⟩
  by_cases hb1 : (l1.length : Int) > 60
  · skip
    go_enter Try.func4, Try.ntmps4
    go_wp2_with fail
    refine (HAL _).mono ?_
    rintro e w1 ⟨rfl, hb⟩
    go_wp2
    go_ret
    exact ⟨rfl, hb⟩
  go_enter Try.func4, Try.ntmps4
  go_wp2_with fail
  refine (HAL _).mono ?_
  rintro e w1 ⟨rfl, hb⟩
  have HB1 := Aside0.mk hb
  clear hb
  go_wp2_with fail
  refine (laminanum_Copy.calls A0 c0 l0 _ (Kd.C_below HR0.out HB1.out) (by omega)).mono ?_
  rintro e w2 ⟨g, cap, rfl, hg, hR2, hb2⟩
  obtain ⟨hC2, hcap⟩ := Kp_C hR2
  have HC2 := Aside0.mk hC2
  have HG2 := Aside0.mk (show w1.heap.size ≤ g ∧ g < w2.heap.size ∧ ∃ cells, w2.heap[g]? = some (.cells cells 5 (0, 0)) from by
    obtain ⟨g', cap', e', _, hl', cells, hc'⟩ := Kd.R_form hR2 (by simp)
    cases e'
    exact ⟨hg, hl', cells, hc'⟩)
  have HB2 := Aside0.mk (below_step HB1.out hb2)
  have hs1 := HB1.out.size
  clear hR2 hb2 hC2 hg
  go_wp2_with fail
  refine (wire_NewReader.calls (some ⟨g, 0, none⟩) cap l0 _ HC2.out HB0.out (by omega)).mono ?_
  rintro e w3 ⟨p, rfl, hn⟩
  have HN := Aside0.mk hn
  have HB3 := Aside0.mk (below_step HB2.out hn.below)
  have hs2 := HB2.out.size
  have hs3 := hn.below.size
  clear hn
  go_wp2_with fail
  have hb4 := below_alloc (Below.refl w3.heap.size w3) (.cells #[.slice A0 l0.length c0, .bool false] 42)
  have hq := heap_alloc_new w3 (.cells #[.slice A0 l0.length c0, .bool false] 42)
  have hs4 : (w3.alloc (.cells #[.slice A0 l0.length c0, .bool false] 42)).heap.size = w3.heap.size + 1 := by simp
  generalize w3.alloc (.cells #[.slice A0 l0.length c0, .bool false] 42) = w4 at *
  have hRd4 := HN.out.rd.below hb4
  have hbb4 := HB3.out.trans (hb4.mono (by omega))
  have hRm4 : Rm w4 (fun i => i < w.heap.size) w3.heap.size l0 false := ⟨A0, c0, hq, hc0, (Rk.of_C HR0.out).old hbb4, (by omega), (fun h => by cases h), HB0.out⟩
  have hRbg : Rb w4 (fun i => i = g) (some ⟨g, 0, none⟩) l0 := ⟨Kd.C_below (Kd.C_below HC2.out HN.out.below) hb4, fun _ a ha => by cases ha; rfl⟩
  obtain ⟨q1, q2, cells, q3⟩ := HG2.out
  have hNf : Nf w4 (some ⟨g, 0, none⟩) l0 := fun _ a ha => by
    cases ha
    exact ⟨rfl, cells, (hb4.block g (by omega)).trans ((HN.out.below.block g q2).trans q3)⟩
  refine (laminanum_Over.seg (fun i => i = g) (some ⟨g, 0, none⟩) cap l0 _ hRbg hNf).mono ?_
  rintro e w5 ⟨rfl, sg⟩
  have og := sg.only hRbg
  have hs5 := og.size
  have HRD5 := Aside0.mk (hRd4.only og (fun i hi (e : i = g) => by omega) (fun i hi (e : i = g) => by have := HN.out.pt i hi; omega))
  have HRM5 := Aside0.mk (hRm4.only og (fun i hi (e : i = g) => by omega) (by omega))
  have HB5 := Aside0.mk (hbb4.trans (og.below (B := w.heap.size) (fun i hi => by omega) hbb4.size))
  have HP := Aside0.mk (show ∀ i, Pt (.pointer (some ⟨p, 0, none⟩)) i → w2.heap.size ≤ i ∧ i < w3.heap.size from HN.out.pt)
  clear hRd4 hRm4 hbb4 hRbg hNf sg og hb4 hq q3 HN HC2 HG2 HB2 HB3
  go_wp2
  go_loopw [9, 10, 11, 33] (fun _ _ _ v33 wr => ∃ (k : Nat) (l : List Int) (bad : Bool), k ≤ l1.length ∧ v33 = .int .i64 k ∧ l.length ≤ 3000 ∧ Aside0 (Rd wr (fun i => w2.heap.size ≤ i ∧ i < w3.heap.size ∧ ¬ Pt (.pointer (some ⟨p, 0, none⟩)) i) (.pointer (some ⟨p, 0, none⟩)) l bad) ∧ Aside0 (Rm wr (fun i => i < w.heap.size) w3.heap.size l bad) ∧ Aside0 (Below w.heap.size w wr) ∧ Aside0 (w3.heap.size < wr.heap.size)) (fun _ _ _ v33 _ => l1.length - (intOf v33).toNat)
  case atStart => exact ⟨0, l0, false, by omega, rfl, by omega, HRD5, HRM5, HB5, ⟨by omega⟩⟩
  case round =>
    obtain ⟨k, l, bad, hk, rfl, hl, HRD, HRM, HB, HS⟩ := hrel
    by_cases hlt : k < l1.length
    · obtain ⟨ad, e, hx⟩ := C_cells (Kd.C_below HR1.out HB.out) (by omega)
      subst e
      have hx1 := hx k hlt
      clear hx
      have hss := HS.out
      have HRC := Aside0.mk (fun W (hb : Below wr.heap.size wr W) => laminalaw03_read.calls _ _ _ _ _ w3.heap.size _ _ (rd l1 (k : Int)) W (HRD.out.below hb) (HRM.out.below hb) (by omega) (fun h => by have := HP.out _ h; omega) (fun i hi h => by have := HP.out _ h; omega) (fun i hi h => by omega) (fun i hi => (by have := hi.2.1; have := hb.size; omega)) (fun i hi => (by have := hb.size; omega)) (by omega) (by omega))
      have hls := rdS_len (rd l1 (k : Int)) l bad
      generalize hrs : rdS (rd l1 (k : Int)) l bad = rs at *
      have HRS := Aside0.mk hrs
      clear hrs
      obtain ⟨l', bad'⟩ := rs
      go_wp2_with fail
      go_region_with (first | (go_at_call 18; refine (HRC.out _ (below_drew (Below.refl _ _))).mono ?_; rintro e w6 ⟨b, rfl, hbt, hto⟩; obtain rfl := ReadOk.same hbt; obtain ⟨⟨Am, cm, h0⟩, h1, -, -, -⟩ := rm_bad hto.rm; have HTO := Aside0.mk hto; clear hbt hto) | (go_at_call 19; refine (wire_Reader_Left.calls _ _ l' bad' _ HTO.out.rd).mono ?_; rintro e w7 ⟨rfl, rfl⟩))
      all_goals
        have HEND := Aside0.mk (wire_Reader_End.calls _ _ l' bad' w6 HTO.out.rd)
        rcases bad' with _ | _
        · by_cases hl0 : 0 < l'.length
          · have hl1 : (0 : Int) < l'.length := by omega
            have he : endE l' false = some 2 := by unfold endE; rw [if_pos (.inr hl0)]
            rw [he, errW_some] at HEND
            clear he
            go_wp2_with fail
            refine HEND.out.mono ?_
            rintro e w7 ⟨rfl, rfl⟩
            have HIS := laminanum_Is.calls (some 2) 2 true w6 (by rfl)
            rw [errW_some] at HIS
            go_wp2_with fail
            refine HIS.mono ?_
            rintro e w8 ⟨rfl, ⟨n8, rfl⟩⟩
            clear HIS
            go_wp2
            refine ⟨⟨k + 1, l', false, by omega, by go_num, by omega, ⟨HTO.out.rd.below (pw_below_drewN (Below.refl _ _) _)⟩, ⟨HTO.out.rm.below (pw_below_drewN (Below.refl _ _) _)⟩, ⟨pw_below_drewN ((below_drew HB.out).trans (HTO.out.only.below (B := w.heap.size) (fun i hi => by rcases hi with h | h | h; have := HP.out _ h; omega; omega; have := h.1; omega) HB.out.size)) _⟩, ⟨Nat.lt_of_lt_of_le hss HTO.out.only.size⟩⟩, by simp [intOf]; omega⟩
          · have hl1 : ¬ (0 : Int) < l'.length := by omega
            have he : endE l' false = none := by unfold endE; rw [if_neg (by rintro (h | h); cases h; exact hl0 h)]
            rw [he, errW_none] at HEND
            clear he
            go_wp2_with fail
            refine HEND.out.mono ?_
            rintro e w7 ⟨rfl, rfl⟩
            go_wp2
            refine ⟨⟨k + 1, l', false, by omega, by go_num, by omega, ⟨HTO.out.rd⟩, ⟨HTO.out.rm⟩, ⟨((below_drew HB.out).trans (HTO.out.only.below (B := w.heap.size) (fun i hi => by rcases hi with h | h | h; have := HP.out _ h; omega; omega; have := h.1; omega) HB.out.size))⟩, ⟨Nat.lt_of_lt_of_le hss HTO.out.only.size⟩⟩, by simp [intOf]; omega⟩
        · skip
          have he : endE l' true = some 2 := by unfold endE; rw [if_pos (.inl rfl)]
          rw [he, errW_some] at HEND
          clear he
          go_wp2_with fail
          refine HEND.out.mono ?_
          rintro e w7 ⟨rfl, rfl⟩
          have HIS := laminanum_Is.calls (some 2) 2 true w6 (by rfl)
          rw [errW_some] at HIS
          go_wp2_with fail
          refine HIS.mono ?_
          rintro e w8 ⟨rfl, ⟨n8, rfl⟩⟩
          clear HIS
          go_wp2
          refine ⟨⟨k + 1, l', true, by omega, by go_num, by omega, ⟨HTO.out.rd.below (pw_below_drewN (Below.refl _ _) _)⟩, ⟨HTO.out.rm.below (pw_below_drewN (Below.refl _ _) _)⟩, ⟨pw_below_drewN ((below_drew HB.out).trans (HTO.out.only.below (B := w.heap.size) (fun i hi => by rcases hi with h | h | h; have := HP.out _ h; omega; omega; have := h.1; omega) HB.out.size)) _⟩, ⟨Nat.lt_of_lt_of_le hss HTO.out.only.size⟩⟩, by simp [intOf]; omega⟩
    · obtain rfl : k = l1.length := by omega
      go_wp2_with fail
      obtain ⟨⟨Am, cm, h0⟩, h1, -, -, -⟩ := rm_bad HRM.out
      go_quiet ((go_at_call 19; exact quiet_back (wire_Reader_Left.calls _ _ l bad _ (HRD.out.below (pw_below_drewN (Below.refl _ _) _)))))
      go_wp2
      go_ret
      exact ⟨rfl, pw_below_drewN HB.out _⟩

/-! ### laminalaw03_WireBad: function 5 -/
set_option maxHeartbeats 4000000 in
theorem laminalaw03_WireBad.law (A0 : Option Addr) (c0 : Nat) (l0 : List Int) (A1 : Option Addr) (c1 : Nat) (l1 : List Int) (w : World) (hr0 : Kd.C (Kd.int .u8) w A0 l0.length l0) (hc0 : l0.length ≤ c0) (hy0 : l0.length * 1 ≤ 140737488351232) (hw0 : ∀ n ∈ l0, (Lit.int .u8 n).wf = true)
    (hr1 : Kd.C (Kd.int .i64) w A1 l1.length l1) (hc1 : l1.length ≤ c1) (hy1 : l1.length * 8 ≤ 140737488351232) (hw1 : ∀ n ∈ l1, (Lit.int .i64 n).wf = true) :
    Calls Try.prog 5 #[.slice A0 l0.length c0, .slice A1 l1.length c1] w fun e w' => e = .returned (.bool true) ∧ Below w.heap.size w w' := by
  have hu46 := Try.underlying46
  have hu49 := Try.underlying49
  have HR0 := Aside0.mk hr0
  have HR1 := Aside0.mk hr1
  have HB0 := Aside0.mk (wfs_u8 hw0)
  have HAL := fun W => laminalaw03_alive.calls W
  clear hr0 hr1 hw0 hw1
  by_cases hb0 : (l0.length : Int) > 3000
  · skip
    go_enter Try.func5, Try.ntmps5
    go_wp2_with fail
    refine (HAL _).mono ?_
    rintro e w1 ⟨rfl, hb⟩
    go_wp2
    go_ret
    exact ⟨rfl, hb⟩
  by_cases hb1 : (l1.length : Int) > 60
  · skip
    go_enter Try.func5, Try.ntmps5
    go_wp2_with fail
    refine (HAL _).mono ?_
    rintro e w1 ⟨rfl, hb⟩
    go_wp2
    go_ret
    exact ⟨rfl, hb⟩
  go_enter Try.func5, Try.ntmps5
  go_wp2_with fail
  refine (HAL _).mono ?_
  rintro e w1 ⟨rfl, hb⟩
  have HB1 := Aside0.mk hb
  clear hb
  go_wp2_with fail
  refine (wire_NewReader.calls A0 c0 l0 _ (Kd.C_below HR0.out HB1.out) HB0.out (by omega)).mono ?_
  rintro e w3 ⟨p, rfl, hn⟩
  have HB3 := Aside0.mk (below_step HB1.out hn.below)
  have hs1 := HB1.out.size
  have hs3 := hn.below.size
  have HP := Aside0.mk (show ∀ i, Pt (.pointer (some ⟨p, 0, none⟩)) i → w1.heap.size ≤ i ∧ i < w3.heap.size from hn.pt)
  have HN := Aside0.mk hn.rd
  clear hn
  go_wp2_with fail
  refine (wire_Reader_Bytes.calls _ _ _ _ _ HN.out).mono ?_
  rintro e w4 ⟨A4, c4, rfl, -, hx⟩
  have HX := Aside0.mk hx.rdto
  have hl4 : (bytesS l0 false).2.1.length ≤ l0.length := by
    have := rdS_len 3 l0 false
    rwa [show rdS 3 l0 false = (bytesS l0 false).2 by rfl] at this
  have HB4 := Aside0.mk (HB3.out.trans (hx.rdto.only.below (B := w.heap.size) (fun i hi => by have := HP.out i hi; omega) HB3.out.size))
  generalize bytesS l0 false = y at *
  obtain ⟨b4, l4, bad4⟩ := y
  simp only at HX hl4
  clear hx
  go_wp2
  go_loopw [25] (fun v25 wr => ∃ (k : Nat) (l : List Int) (bad : Bool), k ≤ l0.length ∧ v25 = .int .i64 k ∧ l.length ≤ l0.length ∧ Aside0 (RdTo w3 wr (fun i => w1.heap.size ≤ i ∧ i < w3.heap.size ∧ ¬ Pt (.pointer (some ⟨p, 0, none⟩)) i) (.pointer (some ⟨p, 0, none⟩)) l bad)) (fun v25 _ => l0.length - (intOf v25).toNat)
  case atStart => exact ⟨0, l4, bad4, by omega, rfl, hl4, HX⟩
  case round =>
    obtain ⟨k, l, bad, hk, rfl, hl, HRD⟩ := hrel
    by_cases hlt : k < l0.length
    · go_wp2_with fail
      refine (wire_Reader_Left.calls _ _ l bad _ HRD.out.rd).mono ?_
      rintro e w7 ⟨rfl, rfl⟩
      by_cases hp : 0 < l.length
      · have hp1 : (0 : Int) < l.length := by omega
        go_wp2_with fail
        refine (wire_Reader_Left.calls _ _ l bad _ HRD.out.rd).mono ?_
        rintro e w7 ⟨rfl, rfl⟩
        by_cases hp2 : l.length < l0.length
        · go_wp2_with fail
          refine (wire_Reader_Flag.calls _ _ l bad _ HRD.out.rd).mono ?_
          rintro e w8 ⟨rfl, hx⟩
          have HX8 := Aside0.mk (HRD.out.then_ hx)
          have hl8 := rdS_len 2 l bad
          rw [show rdS 2 l bad = (flagS l bad).2 by rfl] at hl8
          clear hx
          go_wp2
          exact ⟨⟨k + 1, _, _, by omega, by go_num, by omega, HX8⟩, by simp [intOf]; omega⟩
        · go_wp2
          exact ⟨⟨k + 1, l, bad, by omega, by go_num, by omega, HRD⟩, by simp [intOf]; omega⟩
      · have hp1 : ¬ (0 : Int) < l.length := by omega
        go_wp2
        exact ⟨⟨k + 1, l, bad, by omega, by go_num, by omega, HRD⟩, by simp [intOf]; omega⟩
    · obtain rfl : k = l0.length := by omega
      have HBr := Aside0.mk (HB3.out.trans (HRD.out.only.below (B := w.heap.size) (fun i hi => by have := HP.out i hi; omega) HB3.out.size))
      have hsr := HRD.out.only.size
      go_wp2_with fail
      refine (wire_Reader_Left.calls _ _ l bad _ HRD.out.rd).mono ?_
      rintro e w7 ⟨rfl, rfl⟩
      by_cases hp : 0 < l.length
      · have hp1 : (0 : Int) < l.length := by omega
        go_wp2
        go_ret
        exact ⟨rfl, HBr.out⟩
      · have hp1 : ¬ (0 : Int) < l.length := by omega
        obtain rfl : l = [] := List.eq_nil_of_length_eq_zero (by omega)
        go_wp2_with fail
        refine (wire_Reader_Num.calls _ _ [] bad _ HRD.out.rd).mono ?_
        rintro e w8 ⟨rfl, hx⟩
        rw [show numS [] bad = (0, [], true) by cases bad <;> rfl] at hx
        have HX8 := Aside0.mk (HRD.out.then_ hx)
        have HB8 := Aside0.mk (HB3.out.trans (HX8.out.only.below (B := w.heap.size) (fun i hi => by have := HP.out i hi; omega) HB3.out.size))
        have hs8 := HX8.out.only.size
        clear hx
        have hq := heap_alloc_new w8 (.cells #[.slice none 0 0, .bool true] 42)
        have HRM := Aside0.mk (show Rm (w8.alloc (.cells #[.slice none 0 0, .bool true] 42)) (fun _ => False) w8.heap.size [] true from ⟨none, 0, hq, by simp, ⟨Kd.C_nil _ _, fun h => absurd h (by simp)⟩, fun h => h, fun _ => rfl, by simp⟩)
        have HRD9 := Aside0.mk (HX8.out.rd.below (below_alloc (Below.refl w8.heap.size w8) (.cells #[.slice none 0 0, .bool true] 42)))
        have HB9 := Aside0.mk (below_alloc HB8.out (.cells #[.slice none 0 0, .bool true] 42))
        have hs9 : (w8.alloc (.cells #[.slice none 0 0, .bool true] 42)).heap.size = w8.heap.size + 1 := by simp
        clear hq
        go_wp2
        go_loopw [8, 49] (fun _ v49 wr => ∃ k : Nat, k ≤ l1.length ∧ v49 = .int .i64 k ∧ Aside0 (Rd wr (fun i => w1.heap.size ≤ i ∧ i < w3.heap.size ∧ ¬ Pt (.pointer (some ⟨p, 0, none⟩)) i) (.pointer (some ⟨p, 0, none⟩)) [] true) ∧ Aside0 (Rm wr (fun _ => False) w8.heap.size [] true) ∧ Aside0 (Below w.heap.size w wr) ∧ Aside0 (w8.heap.size < wr.heap.size)) (fun _ v49 _ => l1.length - (intOf v49).toNat)
        case atStart => exact ⟨0, by omega, rfl, HRD9, HRM, HB9, ⟨by omega⟩⟩
        case round =>
          obtain ⟨k, hk, rfl, HRD, HRM, HB, HS⟩ := hrel
          by_cases hlt : k < l1.length
          · obtain ⟨ad, e, hx⟩ := C_cells (Kd.C_below HR1.out HB.out) (by omega)
            subst e
            have hx1 := hx k hlt
            have hss := HS.out
            clear hx
            go_wp2_with fail
            refine (laminalaw03_read.calls _ _ _ _ (fun _ => False) w8.heap.size _ _ (rd l1 (k : Int)) wr HRD.out HRM.out (by omega) (fun h => by have := HP.out _ h; omega) (fun i hi h => hi) (fun i hi h => hi) (fun i hi => (by have := hi.2.1; show i < wr.heap.size; omega)) (fun i hi => hi.elim) (by simp) (by simp)).mono ?_
            rintro e w9 ⟨b, rfl, hbt, hto⟩
            obtain rfl := ReadOk.same hbt
            rw [rdS_bad] at hto
            have HTO := Aside0.mk hto
            clear hto hbt
            go_wp2_with fail
            refine (wire_Reader_Left.calls _ _ _ _ _ HTO.out.rd).mono ?_
            rintro e w10 ⟨rfl, rfl⟩
            go_wp2_with fail
            refine (wire_Reader_End.calls _ _ _ _ _ HTO.out.rd).mono ?_
            rintro e w10 ⟨rfl, rfl⟩
            rw [show endE [] true = some 2 by rfl, errW_some]
            go_wp2
            refine ⟨⟨k + 1, by omega, by go_num, ⟨HTO.out.rd⟩, ⟨HTO.out.rm⟩, ⟨HB.out.trans (HTO.out.only.below (B := w.heap.size) (fun i hi => by rcases hi with h | h | h; have := HP.out _ h; omega; omega; have := h.1; omega) HB.out.size)⟩, ⟨Nat.lt_of_lt_of_le hss HTO.out.only.size⟩⟩, by simp [intOf]; omega⟩
          · obtain rfl : k = l1.length := by omega
            go_wp2_with fail
            refine (wire_Reader_End.calls _ _ _ _ _ HRD.out).mono ?_
            rintro e w10 ⟨rfl, rfl⟩
            rw [show endE [] true = some 2 by rfl]
            have HIS := laminanum_Is.calls (some 2) 2 true wr (by rfl)
            rw [errW_some] at HIS ⊢
            go_wp2_with fail
            refine HIS.mono ?_
            rintro e w8 ⟨rfl, ⟨n8, rfl⟩⟩
            go_wp2
            go_ret
            exact ⟨rfl, pw_below_drewN HB.out _⟩

end Go.Proofs.Ytibpbihcbgcedaa.Hp
