/- Contracts of functions of the given program, and what they lean on: written by this session's own program, out of hand texts laid into the kit's printer. -/
import Derived.Deep.QuietTactic
import Derived.BigQuiet
import Derived.Deep.RegionWith
import Derived.Deep.DeepMust
import Derived.Test.YtibpbihcbgcedaaHp0
import Derived.Test.YtibpbihcbgcedaaHg1
import Derived.Test.YtibpbihcbgcedaaHg2
namespace Go.Proofs.Ytibpbihcbgcedaa.Hp
open Go.RowKit Go.Proofs.YtibpbihcbgcedaaW.PrintWords Go.Proofs.YtibpbihcbgcedaaW.PrintLast Go.Proofs.YtibpbihcbgcedaaW.PrintMore
attribute [local go_sem] max2_int min2_int max_two min_two max_three min_three max_four min_four   -- for this text's walks alone
set_option linter.unusedVariables false
set_option linter.unusedSimpArgs false

/-! ### laminalaw03_WireReads: function 4 -/
theorem quiet_back {P : Program} {f : FuncId} {args : Array Value} {w : World} {n : Nat} {v : Value} (h : Calls P f args (w.drewN n) fun e w' => e = .returned v ∧ w.drewN n = w') : Calls P f args (w.drewN n) fun e w'' => e = .returned v ∧ ∃ m, w'' = w.drewN m := h.mono fun _ _ ⟨he, hm⟩ => ⟨he, n, hm.symm⟩
theorem rdS_len (kind : Int) (l : List Int) (bad : Bool) : (rdS kind l bad).1.length ≤ l.length := by
  have h1 := byteS_len l bad
  have h2 := numS_len l bad
  have h3 : (flagS l bad).2.1.length ≤ l.length := by
    unfold flagS
    split
    · simp
    · exact h1
  have h4 : (bytesS l bad).2.1.length ≤ l.length := by
    unfold bytesS
    split
    · rename_i b r h
      obtain ⟨_, _, _, _, rfl⟩ := tkS_some h
      simp only [List.length_drop]
      omega
    · simp
  have h5 : ∀ k (l : List Int) (bad : Bool), (numsR k l bad).2.1.length ≤ l.length := by
    intro k
    induction k with
    | zero => intro l bad; exact Nat.le_refl _
    | succ k ih =>
      intro l bad
      have := ih l bad
      have := numS_len (numsR k l bad).2.1 (numsR k l bad).2.2
      simp only [numsR]
      omega
  have h6 : (numsS l bad).2.1.length ≤ l.length := by
    unfold numsS
    split
    · simp
    · have := h5 (numS l bad).1.toNat (numS l bad).2.1 (numS l bad).2.2
      omega
  unfold rdS
  repeat' split
  all_goals assumption
set_option maxHeartbeats 4000000 in
theorem laminalaw03_WireReads.law (A0 : Option Addr) (c0 : Nat) (l0 : List Int) (A1 : Option Addr) (c1 : Nat) (l1 : List Int) (w : World) (hr0 : Kd.C (Kd.int .u8) w A0 l0.length l0) (hc0 : l0.length ≤ c0) (hy0 : l0.length * 1 ≤ 140737488351232) (hw0 : ∀ n ∈ l0, (Lit.int .u8 n).wf = true)
    (hr1 : Kd.C (Kd.int .i64) w A1 l1.length l1) (hc1 : l1.length ≤ c1) (hy1 : l1.length * 8 ≤ 140737488351232) (hw1 : ∀ n ∈ l1, (Lit.int .i64 n).wf = true) :
    Calls Try.prog 4 #[.slice A0 l0.length c0, .slice A1 l1.length c1] w fun e w' => e = .returned (.bool true) ∧ Below w.heap.size w w' := by
  have hu46 := Try.underlying46
  have hu49 := Try.underlying49
  have HR0 := Aside0.mk hr0
  have HR1 := Aside0.mk hr1
  have HB0 := Aside0.mk (wfs_u8 hw0)
  have HAL := fun W => laminalaw03_alive.calls W
  clear hr0 hr1 hw0 hw1
  by_cases hb0 : (l0.length : Int) > 3000
  · skip
    go_enter Try.func4, Try.ntmps4
    go_wp2_with fail
    refine (HAL _).mono ?_
    rintro e w1 ⟨rfl, hb⟩
    go_wp2
    go_ret
    exact ⟨rfl, hb⟩
  by_cases hb1 : (l1.length : Int) > 60
  · skip
    go_enter Try.func4, Try.ntmps4
    go_wp2_with fail
    refine (HAL _).mono ?_
    rintro e w1 ⟨rfl, hb⟩
    go_wp2
    go_ret
    exact ⟨rfl, hb⟩
  go_enter Try.func4, Try.ntmps4
  go_wp2_with fail
  refine (HAL _).mono ?_
  rintro e w1 ⟨rfl, hb⟩
  have HB1 := Aside0.mk hb
  clear hb
  go_wp2_with fail
  refine (laminanum_Copy.calls A0 c0 l0 _ (Kd.C_below HR0.out HB1.out) (by omega)).mono ?_
  rintro e w2 ⟨g, cap, rfl, hg, hR2, hb2⟩
  obtain ⟨hC2, hcap⟩ := Kp_C hR2
  have HC2 := Aside0.mk hC2
  have HG2 := Aside0.mk (show w1.heap.size ≤ g ∧ g < w2.heap.size ∧ ∃ cells, w2.heap[g]? = some (.cells cells 5 (0, 0)) from by
    obtain ⟨g', cap', e', _, hl', cells, hc'⟩ := Kd.R_form hR2 (by simp)
    cases e'
    exact ⟨hg, hl', cells, hc'⟩)
  have HB2 := Aside0.mk (below_step HB1.out hb2)
  have hs1 := HB1.out.size
  clear hR2 hb2 hC2 hg
  go_wp2_with fail
  refine (wire_NewReader.calls (some ⟨g, 0, none⟩) cap l0 _ HC2.out HB0.out (by omega)).mono ?_
  rintro e w3 ⟨p, rfl, hn⟩
  have HN := Aside0.mk hn
  have HB3 := Aside0.mk (below_step HB2.out hn.below)
  have hs2 := HB2.out.size
  have hs3 := hn.below.size
  clear hn
  go_wp2_with fail
  have hb4 := below_alloc (Below.refl w3.heap.size w3) (.cells #[.slice A0 l0.length c0, .bool false] 42)
  have hq := heap_alloc_new w3 (.cells #[.slice A0 l0.length c0, .bool false] 42)
  have hs4 : (w3.alloc (.cells #[.slice A0 l0.length c0, .bool false] 42)).heap.size = w3.heap.size + 1 := by simp
  generalize w3.alloc (.cells #[.slice A0 l0.length c0, .bool false] 42) = w4 at *
  have hRd4 := HN.out.rd.below hb4
  have hbb4 := HB3.out.trans (hb4.mono (by omega))
  have hRm4 : Rm w4 (fun i => i < w.heap.size) w3.heap.size l0 false := ⟨A0, c0, hq, hc0, (Rk.of_C HR0.out).old hbb4, (by omega), (fun h => by cases h), HB0.out⟩
  have hRbg : Rb w4 (fun i => i = g) (some ⟨g, 0, none⟩) l0 := ⟨Kd.C_below (Kd.C_below HC2.out HN.out.below) hb4, fun _ a ha => by cases ha; rfl⟩
  obtain ⟨q1, q2, cells, q3⟩ := HG2.out
  have hNf : Nf w4 (some ⟨g, 0, none⟩) l0 := fun _ a ha => by
    cases ha
    exact ⟨rfl, cells, (hb4.block g (by omega)).trans ((HN.out.below.block g q2).trans q3)⟩
  refine (laminanum_Over.seg (fun i => i = g) (some ⟨g, 0, none⟩) cap l0 _ hRbg hNf).mono ?_
  rintro e w5 ⟨rfl, sg⟩
  have og := sg.only hRbg
  have hs5 := og.size
  have HRD5 := Aside0.mk (hRd4.only og (fun i hi (e : i = g) => by omega) (fun i hi (e : i = g) => by have := HN.out.pt i hi; omega))
  have HRM5 := Aside0.mk (hRm4.only og (fun i hi (e : i = g) => by omega) (by omega))
  have HB5 := Aside0.mk (hbb4.trans (og.below (B := w.heap.size) (fun i hi => by omega) hbb4.size))
  have HP := Aside0.mk (show ∀ i, Pt (.pointer (some ⟨p, 0, none⟩)) i → w2.heap.size ≤ i ∧ i < w3.heap.size from HN.out.pt)
  clear hRd4 hRm4 hbb4 hRbg hNf sg og hb4 hq q3 HN HC2 HG2 HB2 HB3
  go_wp2
  go_loopw [9, 10, 11, 33] (fun _ _ _ v33 wr => ∃ (k : Nat) (l : List Int) (bad : Bool), k ≤ l1.length ∧ v33 = .int .i64 k ∧ l.length ≤ 3000 ∧ Aside0 (Rd wr (fun i => w2.heap.size ≤ i ∧ i < w3.heap.size ∧ ¬ Pt (.pointer (some ⟨p, 0, none⟩)) i) (.pointer (some ⟨p, 0, none⟩)) l bad) ∧ Aside0 (Rm wr (fun i => i < w.heap.size) w3.heap.size l bad) ∧ Aside0 (Below w.heap.size w wr) ∧ Aside0 (w3.heap.size < wr.heap.size)) (fun _ _ _ v33 _ => l1.length - (intOf v33).toNat)
  case atStart => exact ⟨0, l0, false, by omega, rfl, by omega, HRD5, HRM5, HB5, ⟨by omega⟩⟩
  case round =>
    obtain ⟨k, l, bad, hk, rfl, hl, HRD, HRM, HB, HS⟩ := hrel
    by_cases hlt : k < l1.length
    · obtain ⟨ad, e, hx⟩ := C_cells (Kd.C_below HR1.out HB.out) (by omega)
      subst e
      have hx1 := hx k hlt
      clear hx
      have hss := HS.out
      have HRC := Aside0.mk (fun W (hb : Below wr.heap.size wr W) => laminalaw03_read.calls _ _ _ _ _ w3.heap.size _ _ (rd l1 (k : Int)) W (HRD.out.below hb) (HRM.out.below hb) (by omega) (fun h => by have := HP.out _ h; omega) (fun i hi h => by have := HP.out _ h; omega) (fun i hi h => by omega) (fun i hi => (by have := hi.2.1; have := hb.size; omega)) (fun i hi => (by have := hb.size; omega)) (by omega) (by omega))
      have hls := rdS_len (rd l1 (k : Int)) l bad
      generalize hrs : rdS (rd l1 (k : Int)) l bad = rs at *
      have HRS := Aside0.mk hrs
      clear hrs
      obtain ⟨l', bad'⟩ := rs
      go_wp2_with fail
      go_region_with (first | (go_at_call 18; refine (HRC.out _ (below_drew (Below.refl _ _))).mono ?_; rintro e w6 ⟨b, rfl, hbt, hto⟩; obtain rfl := ReadOk.same hbt; obtain ⟨⟨Am, cm, h0⟩, h1, -, -, -⟩ := rm_bad hto.rm; have HTO := Aside0.mk hto; clear hbt hto) | (go_at_call 19; refine (wire_Reader_Left.calls _ _ l' bad' _ HTO.out.rd).mono ?_; rintro e w7 ⟨rfl, rfl⟩))
      all_goals
        have HEND := Aside0.mk (wire_Reader_End.calls _ _ l' bad' w6 HTO.out.rd)
        rcases bad' with _ | _
        · by_cases hl0 : 0 < l'.length
          · have hl1 : (0 : Int) < l'.length := by omega
            have he : endE l' false = some 2 := by unfold endE; rw [if_pos (.inr hl0)]
            rw [he, errW_some] at HEND
            clear he
            go_wp2_with fail
            refine HEND.out.mono ?_
            rintro e w7 ⟨rfl, rfl⟩
            have HIS := laminanum_Is.calls (some 2) 2 true w6 (by rfl)
            rw [errW_some] at HIS
            go_wp2_with fail
            refine HIS.mono ?_
            rintro e w8 ⟨rfl, ⟨n8, rfl⟩⟩
            clear HIS
            go_wp2
            refine ⟨⟨k + 1, l', false, by omega, by go_num, by omega, ⟨HTO.out.rd.below (pw_below_drewN (Below.refl _ _) _)⟩, ⟨HTO.out.rm.below (pw_below_drewN (Below.refl _ _) _)⟩, ⟨pw_below_drewN ((below_drew HB.out).trans (HTO.out.only.below (B := w.heap.size) (fun i hi => by rcases hi with h | h | h; have := HP.out _ h; omega; omega; have := h.1; omega) HB.out.size)) _⟩, ⟨Nat.lt_of_lt_of_le hss HTO.out.only.size⟩⟩, by simp [intOf]; omega⟩
          · have hl1 : ¬ (0 : Int) < l'.length := by omega
            have he : endE l' false = none := by unfold endE; rw [if_neg (by rintro (h | h); cases h; exact hl0 h)]
            rw [he, errW_none] at HEND
            clear he
            go_wp2_with fail
            refine HEND.out.mono ?_
            rintro e w7 ⟨rfl, rfl⟩
            go_wp2
            refine ⟨⟨k + 1, l', false, by omega, by go_num, by omega, ⟨HTO.out.rd⟩, ⟨HTO.out.rm⟩, ⟨((below_drew HB.out).trans (HTO.out.only.below (B := w.heap.size) (fun i hi => by rcases hi with h | h | h; have := HP.out _ h; omega; omega; have := h.1; omega) HB.out.size))⟩, ⟨Nat.lt_of_lt_of_le hss HTO.out.only.size⟩⟩, by simp [intOf]; omega⟩
        · skip
          have he : endE l' true = some 2 := by unfold endE; rw [if_pos (.inl rfl)]
          rw [he, errW_some] at HEND
          clear he
          go_wp2_with fail
          refine HEND.out.mono ?_
          rintro e w7 ⟨rfl, rfl⟩
          have HIS := laminanum_Is.calls (some 2) 2 true w6 (by rfl)
          rw [errW_some] at HIS
          go_wp2_with fail
          refine HIS.mono ?_
          rintro e w8 ⟨rfl, ⟨n8, rfl⟩⟩
          clear HIS
          go_wp2
          refine ⟨⟨k + 1, l', true, by omega, by go_num, by omega, ⟨HTO.out.rd.below (pw_below_drewN (Below.refl _ _) _)⟩, ⟨HTO.out.rm.below (pw_below_drewN (Below.refl _ _) _)⟩, ⟨pw_below_drewN ((below_drew HB.out).trans (HTO.out.only.below (B := w.heap.size) (fun i hi => by rcases hi with h | h | h; have := HP.out _ h; omega; omega; have := h.1; omega) HB.out.size)) _⟩, ⟨Nat.lt_of_lt_of_le hss HTO.out.only.size⟩⟩, by simp [intOf]; omega⟩
    · obtain rfl : k = l1.length := by omega
      go_wp2_with fail
      obtain ⟨⟨Am, cm, h0⟩, h1, -, -, -⟩ := rm_bad HRM.out
      go_quiet ((go_at_call 19; exact quiet_back (wire_Reader_Left.calls _ _ l bad _ (HRD.out.below (pw_below_drewN (Below.refl _ _) _)))))
      go_wp2
      go_ret
      exact ⟨rfl, pw_below_drewN HB.out _⟩

/-! ### laminalaw03_WireBack: function 6 -/
theorem valL_byt (kind n : Int) (B Ns : List Int) (hB : ∀ x ∈ B, 0 ≤ x ∧ x < 256) : ∀ x ∈ valL kind n B Ns, 0 ≤ x ∧ x < 256 := by
  have hn : ∀ m : Int, ∀ x ∈ numL m, 0 ≤ x ∧ x < 256 := by
    intro m x hx
    simp only [numL, List.mem_map] at hx
    obtain ⟨i, _, rfl⟩ := hx
    omega
  have hns : ∀ l : List Int, ∀ x ∈ numsL l, 0 ≤ x ∧ x < 256 := by
    intro l x hx
    simp only [numsL, List.mem_flatMap] at hx
    obtain ⟨m, _, hx⟩ := hx
    exact hn m x hx
  intro x hx
  unfold valL at hx
  split at hx
  · simp only [List.mem_singleton] at hx; omega
  split at hx
  · simp only [List.mem_singleton] at hx; split at hx <;> omega
  split at hx
  · rcases List.mem_append.1 hx with h | h
    · exact hn _ x h
    · exact hB x h
  split at hx
  · rcases List.mem_append.1 hx with h | h
    · exact hn _ x h
    · exact hB x h
  split at hx
  · rcases List.mem_append.1 hx with h | h
    · exact hn _ x h
    · exact hns _ x h
  · exact hn _ x hx
theorem allL_byt (l : List S31) (h : ValsOk l) : ∀ x ∈ allL l, 0 ≤ x ∧ x < 256 := by
  induction l with
  | nil => simp [allL]
  | cons v t ih =>
    intro x hx
    rw [allL] at hx
    rcases List.mem_append.1 hx with h1 | h1
    · exact valL_byt _ _ _ _ (fun y hy => wf_u8 ((h v (List.mem_cons_self ..)).2.2.1.2 y hy)) x h1
    · exact ih (fun y hy => h y (List.mem_cons_of_mem _ hy)) x h1
theorem u64_nat (x : Int) : ∃ u : Nat, IntKind.u64.wrap x = (u : Int) := by
  have e : IntKind.u64.wrap x = x % 18446744073709551616 := by
    simp only [IntKind.wrap, IntKind.bits, IntKind.signed, Bool.false_and, Bool.false_eq_true, if_false]
    rfl
  rw [e]
  exact Int.eq_ofNat_of_zero_le (by omega)
/-- A beginning that is not all: some is missing behind it, or it is bad. -/
def Short (l : List S31) (k : Nat) (p : List Int) (bad : Bool) : Prop := bad = true ∨ ∃ s, s ≠ [] ∧ allL (l.drop k) = p ++ s
theorem Short.step {l : List S31} {k : Nat} {p : List Int} {bad : Bool} (h : Short l k p bad) (hz : bad = true → p = []) (hk : k < l.length) (hg : ValsOk l) (hbd : (rd_T31 l k).f2.length ≤ 300 ∧ (rd_T31 l k).f3.length ≤ 50) : Short l (k + 1) (rdS (rd_T31 l k).f0 p bad).1 (rdS (rd_T31 l k).f0 p bad).2 := by
  obtain ⟨h1, h2, h3⟩ := vals_ok hg k hk
  cases bad
  · rcases h with h | ⟨s, hs, he⟩
    · cases h
    · rcases hr : rdS (rd_T31 l k).f0 p false with ⟨r, bd⟩
      cases bd
      · refine .inr ⟨s, hs, ?_⟩
        have q1 := rdS_more _ s hr
        rw [← he, allL_drop l k hk, rdS_val _ _ _ _ _ h1 (by omega) (by omega) h3] at q1
        injection q1
      · exact .inl rfl
  · obtain rfl := hz rfl
    rw [rdS_bad]
    exact .inl rfl
theorem allL_short (l : List S31) (m : Nat) (h : m < (allL l).length) : Short l 0 ((allL l).take m) false :=
  .inr ⟨(allL l).drop m, by simp; omega, by rw [List.drop_zero, List.take_append_drop]⟩
set_option maxHeartbeats 2000000 in
theorem laminalaw03_WireBack.law (A0 : Option Addr) (c0 : Nat) (l0 : List S31) (a1 : Int) (w : World) (hr0 : Kd.C k31 w A0 l0.length l0) (hc0 : l0.length ≤ c0) (hy0 : l0.length * 64 ≤ 140737488351232) (hg : ValsOk l0) (hw1 : (Lit.int .i64 a1).wf = true) :
    Calls Try.prog 6 #[.slice A0 l0.length c0, .int .i64 a1] w fun e w' => e = .returned (.bool true) ∧ Below w.heap.size w w' := by
  have HR0 := Aside0.mk hr0
  have HG := Aside0.mk hg
  have HAL := fun W => laminalaw03_alive.calls W
  obtain ⟨r, hlf, hlp⟩ := large_f l0 (by omega)
  have HLF := Aside0.mk hlf
  have HLP := Aside0.mk hlp
  have HBY := Aside0.mk (allL_byt l0 hg)
  obtain ⟨ha1, ha2⟩ := wf_i64 hw1
  clear hr0 hg hlf hlp hw1
  have hm : l0.length ≤ 9223372036854775807 := by omega
  rcases r with _ | _
  rotate_left
  · skip
    go_enter Try.func6, Try.ntmps6
    go_wp2_with fail
    refine (HAL _).mono ?_
    rintro e w1 ⟨rfl, hb⟩
    have HB1 := Aside0.mk hb
    clear hb
    go_wp2_with fail
    refine (laminalaw03_large.calls _ A0 c0 l0 true _ (Kd.C_below HR0.out HB1.out) hc0 HLF.out).mono ?_
    rintro e w2 ⟨rfl, hb⟩
    go_wp2
    go_ret
    exact ⟨rfl, below_step HB1.out hb⟩
  obtain ⟨hlen, hbd0⟩ := HLP.out rfl
  have HBD := Aside0.mk hbd0
  have HLL := Aside0.mk (allL_len l0 hbd0)
  clear HLP hbd0
  go_enter Try.func6, Try.ntmps6
  go_wp2_with fail
  refine (HAL _).mono ?_
  rintro e w1 ⟨rfl, hb⟩
  have HB1 := Aside0.mk hb
  clear hb
  go_wp2_with fail
  refine (laminalaw03_large.calls _ A0 c0 l0 false _ (Kd.C_below HR0.out HB1.out) hc0 HLF.out).mono ?_
  rintro e w2 ⟨rfl, hb⟩
  have HB2 := Aside0.mk (below_step HB1.out hb)
  clear hb HB1 HLF
  go_wp2
  go_loopw [7, 21] (fun _ v21 wr => ∃ (k : Nat) (S : Nat → Prop), k ≤ l0.length ∧ v21 = .int .i64 k ∧ Aside0 (Wr wr S false (.pointer (some ⟨w2.heap.size, 0, none⟩)) (allL (l0.take k))) ∧ Aside0 (∀ i, S i → w.heap.size ≤ i ∧ i < wr.heap.size) ∧ Aside0 (Below w.heap.size w wr)) (fun _ v21 _ => l0.length - (intOf v21).toNat)
  case atStart =>
    have hs2 := HB2.out.size
    exact ⟨0, fun i => i = w2.heap.size, by omega, rfl, ⟨wr_new w2⟩, ⟨fun i hi => by subst hi; exact ⟨hs2, by simp⟩⟩, ⟨HB2.out.alloc hs2 _⟩⟩
  case round =>
    obtain ⟨k, S, hk, rfl, HW, HS, HB⟩ := hrel
    have hswr := HB.out.size
    by_cases hlt : k < l0.length
    · have hlw := HLL.out k (by omega)
      have HLN := Aside0.mk (allL_snoc l0 k hlt)
      obtain ⟨ad, A2, c2, A3, c3, e, x0, x1, x2, x3, l2, g2, l3, g3⟩ := at_T31 HR0.out (k : Int) (by omega) (by omega)
      subst e
      obtain ⟨hxB, hxN⟩ := HBD.out k hlt
      obtain ⟨hf, hBb, hNb⟩ := vals_ok HG.out k hlt
      simp only [Int.toNat_natCast] at x0 x1 x2 x3
      replace x0 := (HB.out.cell (World.block_lt_of_cell? w _ x0)).trans x0
      replace x1 := (HB.out.cell (World.block_lt_of_cell? w _ x1)).trans x1
      replace x2 := (HB.out.cell (World.block_lt_of_cell? w _ x2)).trans x2
      replace x3 := (HB.out.cell (World.block_lt_of_cell? w _ x3)).trans x3
      generalize rd_T31 l0 (k : Int) = X at *
      have G2 := Aside0.mk (Rk.of_C g2)
      have G3 := Aside0.mk (Rk.of_C g3)
      have HBb := Aside0.mk hBb
      have HNb := Aside0.mk hNb
      clear g2 g3 hBb hNb
      go_wp2_with fail
      have hb1 := below_alloc (Below.refl wr.heap.size wr) (.cells #[.int .i64 X.f0, .int .i64 X.f1, .slice A2 X.f2.length c2, .slice A3 X.f3.length c3] 31)
      have hs1 : (wr.alloc (.cells #[.int .i64 X.f0, .int .i64 X.f1, .slice A2 X.f2.length c2, .slice A3 X.f3.length c3] 31)).heap.size = wr.heap.size + 1 := by simp
      generalize wr.alloc (.cells #[.int .i64 X.f0, .int .i64 X.f1, .slice A2 X.f2.length c2, .slice A3 X.f3.length c3] 31) = W1 at *
      have hB1 := HB.out.trans (hb1.mono HB.out.size)
      refine (laminalaw03_write.calls S false _ (allL (l0.take k)) X.f0 X.f1 (fun i => i < w.heap.size) A2 c2 X.f2 A3 c3 X.f3 W1 (HW.out.below hb1) (fun i hi => by have := (HS.out i hi).2; omega) (G2.out.old hB1) (G3.out.old hB1) (fun i hi h => by have := (HS.out i h).1; omega) l2 l3 HBb.out HNb.out hf (by omega) (by omega) (by omega)).mono ?_
      rintro e w5 ⟨v5, rfl, -, ht5⟩
      have HT5 := Aside0.mk ht5
      have HB5 := Aside0.mk (hB1.trans (ht5.only.below (B := w.heap.size) (fun i hi => (HS.out i hi).1) hB1.size))
      have hs5 := ht5.only.size
      clear ht5 hb1 hB1
      go_wp2
      refine ⟨⟨k + 1, Grow S W1 w5, by omega, by go_num, ?_, ⟨fun i hi => ?_⟩, HB5⟩, by simp [intOf]; omega⟩
      · rw [HLN.out]
        exact ⟨HT5.out.wr⟩
      · rcases hi with h | h
        · have := HS.out i h
          omega
        · omega
    · obtain rfl : k = l0.length := by omega
      have hLL := HLL.out l0.length (Nat.le_refl _)
      rw [List.take_length] at hLL
      have HW2 : Aside0 (Wr wr S false (.pointer (some ⟨w2.heap.size, 0, none⟩)) (allL l0)) := ⟨by have := HW.out; rwa [List.take_length] at this⟩
      have HSP := Aside0.mk (fun m => allL_short l0 m)
      generalize hBL : allL l0 = BL at *
      have HBL := Aside0.mk hBL
      clear HW hBL
      go_wp2_with fail
      refine (wire_Writer_Out.calls _ false _ BL wr HW2.out (by omega)).mono ?_
      rintro e w6 ⟨v6, rfl, ho6, hb6⟩
      obtain ⟨A6, c6, rfl, -⟩ := Kd.R_reads ho6
      have HC6 := Aside0.mk (Kd.R_reads' ho6).2.2
      have hc6 := (Kd.R_reads' ho6).2.1
      have HB6 := Aside0.mk (below_step HB.out hb6)
      have hs6 := hb6.size
      clear ho6 hb6 HB HW2 HS
      go_wp2_with fail
      refine (wire_NewReader.calls A6 c6 BL _ HC6.out HBY.out (by omega)).mono ?_
      rintro e w7 ⟨p, rfl, hn⟩
      have HN := Aside0.mk hn
      have HB7 := Aside0.mk (below_step HB6.out hn.below)
      have hs7 := hn.below.size
      have HC7 := Aside0.mk ((Rk.of_C HC6.out).below hn.below)
      clear hn HB6 HC6
      have HBK := laminalaw03_back.calls (fun i => w6.heap.size ≤ i ∧ i < w7.heap.size ∧ ¬ Pt (.pointer (some ⟨p, 0, none⟩)) i) p A0 c0 l0 w w7 (by rw [HBL.out]; exact HN.out.rd) (fun i hi => ⟨hi.2.1, by have := hi.1; omega⟩) (by have := HN.out.pt p rfl; omega) HR0.out HB7.out hlen HBD.out HG.out
      go_wp2_with fail
      refine HBK.mono ?_
      rintro e w8 ⟨rfl, hx⟩
      have HX := Aside0.mk hx
      have HB8 := Aside0.mk (HB7.out.trans (hx.only.below (B := w.heap.size) (fun i hi => by have := HN.out.pt i hi; omega) HB7.out.size))
      have hs8 := hx.only.size
      have HC8 := Aside0.mk (HC7.out.only hx.only (fun i hi h => by have := (HN.out.pt i h).1; omega)).row
      clear hx HBK HC7
      go_wp2_with fail
      refine (wire_Reader_End.calls _ _ _ _ _ HX.out.rd).mono ?_
      rintro e w9 ⟨rfl, rfl⟩
      rw [show endE [] false = none by rfl, errW_none]
      by_cases hz : BL.length = 0
      · have hz1 : ((BL.length : Int) == 0) = true := by simp [hz]
        clear hz
        go_wp2
        go_ret
        exact ⟨rfl, HB8.out⟩
      · have hz1 : ((BL.length : Int) == 0) = false := by rw [beq_eq_false_iff_ne]; omega
        have hzp : 0 < BL.length := by omega
        obtain ⟨u, hu⟩ : ∃ u : Nat, IntKind.u64.wrap a1 = (u : Int) := u64_nat a1
        have hm0 : (0 : Int) ≤ (u : Int) % BL.length := by omega
        have hm1 : (u : Int) % BL.length < BL.length := Int.emod_lt_of_pos _ (by omega)
        go_wp2_with fail
        have hmb : u % BL.length < BL.length := Nat.mod_lt _ hzp
        clear hm0 hm1 hu
        generalize u % BL.length = m at *
        have htl : (BL.take m).length = m := by rw [List.length_take]; omega
        have HSH0 := Aside0.mk (HSP.out m hmb)
        have hCT := Kd.C_take (m := m) HC8.out (by omega)
        have HNR := wire_NewReader.calls A6 c6 (BL.take m) w8 hCT (fun x hx => HBY.out x (List.mem_of_mem_take hx)) (by omega)
        rw [htl] at HNR
        have HTL := Aside0.mk htl
        clear htl hCT
        refine HNR.mono ?_
        rintro e w9 ⟨p', rfl, hn⟩
        have HB9 := Aside0.mk (below_step HB8.out hn.below)
        have hs9 := hn.below.size
        have HP := Aside0.mk (show ∀ i, Pt (.pointer (some ⟨p', 0, none⟩)) i → w8.heap.size ≤ i ∧ i < w9.heap.size from hn.pt)
        have HN9 := Aside0.mk hn.rd
        clear hn HNR HX HB7 HB8 HN HC8
        go_wp2
        go_loopw [12, 57] (fun _ v57 wr => ∃ (k : Nat) (l : List Int) (bad : Bool), k ≤ l0.length ∧ v57 = .int .i64 k ∧ l.length ≤ 400000 ∧ Aside0 (Rd wr (fun i => w8.heap.size ≤ i ∧ i < w9.heap.size ∧ ¬ Pt (.pointer (some ⟨p', 0, none⟩)) i) (.pointer (some ⟨p', 0, none⟩)) l bad) ∧ Aside0 (Short l0 k l bad) ∧ Aside0 (Below w.heap.size w wr) ∧ w9.heap.size ≤ wr.heap.size) (fun _ v57 _ => l0.length - (intOf v57).toNat)
        case atStart => exact ⟨0, _, false, by omega, rfl, by rw [HTL.out]; omega, HN9, HSH0, HB9, by omega⟩
        case round =>
          obtain ⟨k, l, bad, hk, rfl, hll, HRD, HSH, HB, hsr⟩ := hrel
          have hswr := HB.out.size
          by_cases hlt : k < l0.length
          · skip
            obtain ⟨ad, A2, c2, A3, c3, e, x0, x1, x2, x3, l2, g2, l3, g3⟩ := at_T31 HR0.out (k : Int) (by omega) (by omega)
            subst e
            have HST := Aside0.mk (HSH.out.step HRD.out.z hlt HG.out (HBD.out k hlt))
            simp only [Int.toNat_natCast] at x0 x1 x2 x3
            replace x0 := (HB.out.cell (World.block_lt_of_cell? w _ x0)).trans x0
            replace x1 := (HB.out.cell (World.block_lt_of_cell? w _ x1)).trans x1
            replace x2 := (HB.out.cell (World.block_lt_of_cell? w _ x2)).trans x2
            replace x3 := (HB.out.cell (World.block_lt_of_cell? w _ x3)).trans x3
            have hls := rdS_len (rd_T31 l0 (k : Int)).f0 l bad
            clear g2 g3
            generalize rd_T31 l0 (k : Int) = X at *
            go_wp2_with fail
            have hb1 := below_alloc (below_alloc (Below.refl wr.heap.size wr) (.cells #[.int .i64 X.f0, .int .i64 X.f1, .slice A2 X.f2.length c2, .slice A3 X.f3.length c3] 31)) (.cells #[.slice none 0 0, .bool false] 42)
            have hqm := heap_alloc_new (wr.alloc (.cells #[.int .i64 X.f0, .int .i64 X.f1, .slice A2 X.f2.length c2, .slice A3 X.f3.length c3] 31)) (.cells #[.slice none 0 0, .bool false] 42)
            have hs1 : ((wr.alloc (.cells #[.int .i64 X.f0, .int .i64 X.f1, .slice A2 X.f2.length c2, .slice A3 X.f3.length c3] 31)).alloc (.cells #[.slice none 0 0, .bool false] 42)).heap.size = wr.heap.size + 2 := by simp
            rw [World.size_alloc] at hqm
            generalize (wr.alloc (.cells #[.int .i64 X.f0, .int .i64 X.f1, .slice A2 X.f2.length c2, .slice A3 X.f3.length c3] 31)).alloc (.cells #[.slice none 0 0, .bool false] 42) = W1 at *
            have hRM : Rm W1 (fun _ => False) (wr.heap.size + 1) [] false := ⟨none, 0, hqm, by simp, ⟨Kd.C_nil _ _, fun h => absurd h (by simp)⟩, fun h => h, (fun h => by cases h), by simp⟩
            refine (laminalaw03_read.calls _ (.pointer (some ⟨p', 0, none⟩)) l bad (fun _ => False) (wr.heap.size + 1) [] false X.f0 W1 (HRD.out.below hb1) hRM (fun h => by have := h.2.1; omega) (fun h => by have := HP.out _ h; omega) (fun _ h => h.elim) (fun _ h => h.elim) (fun i hi => (by have := hi.2.1; omega)) (fun _ h => h.elim) (by omega) (by simp)).mono ?_
            rintro e w12 ⟨b, rfl, -, hto⟩
            have HTO := Aside0.mk hto
            have hs12 := hto.only.size
            have HB12 := Aside0.mk ((HB.out.trans (hb1.mono HB.out.size)).trans (hto.only.below (B := w.heap.size) (fun i hi => by rcases hi with h | h | h; have := HP.out _ h; omega; omega; have := h.1; omega) (by omega)))
            clear hto hb1 hqm hRM
            go_wp2
            exact ⟨⟨k + 1, _, _, by omega, by go_num, by omega, ⟨HTO.out.rd⟩, HST, HB12, by omega⟩, by simp [intOf]; omega⟩
          · obtain rfl : k = l0.length := by omega
            have hbad : bad = true := by
              rcases HSH.out with h | ⟨s, hs, he⟩
              · exact h
              · rw [List.drop_length] at he
                have := List.append_eq_nil_iff.1 (he.symm : l ++ s = [])
                exact absurd this.2 hs
            subst hbad
            go_wp2_with fail
            refine (wire_Reader_End.calls _ _ _ _ _ HRD.out).mono ?_
            rintro e w12 ⟨rfl, rfl⟩
            rw [show endE l true = some 2 by unfold endE; rw [if_pos (.inl rfl)], errW_some]
            go_wp2
            go_ret
            exact ⟨rfl, HB.out⟩

end Go.Proofs.Ytibpbihcbgcedaa.Hp
