/- Contracts of functions of the given program, and what they lean on: written by this session's own program hprint.py, which lays hand texts into the kit's printer. -/
import Derived.BigQuiet
import Derived.Test.YtdfkecfmmcdgiaaHp0
import Derived.Test.YtdfkecfmmcdgiaaHpf14
namespace Go.Proofs.Ytdfkecfmmcdgiaa.Hp
open Go.RowKit Go.Proofs.YtdfkecfmmcdgiaaW.PrintWords Go.Proofs.YtdfkecfmmcdgiaaW.PrintLast Go.Proofs.YtdfkecfmmcdgiaaW.PrintMore
attribute [local go_sem] max2_int min2_int max_two min_two max_three min_three max_four min_four   -- for this text's walks alone
set_option linter.unusedVariables false
set_option linter.unusedSimpArgs false

/-! ### laminanum_Apart: function 18 -/
set_option maxHeartbeats 4000000 in
set_option maxRecDepth 100000 in
theorem laminanum_Apart.calls (vs : List Value) (xss : Nat → List Int) (b0 c0 base : Nat) (w : World) (hb0 : w.heap[b0]? = some (.cells vs.toArray 22 (0, 0))) (hn : vs.length ≤ 10) (hx : ∀ i, (xss i).length ≤ 100000)
    (ho : ∀ (i : Nat) (v : Value), vs[i]? = some v → Ow w base v (xss i)) (hd : ∀ (i j : Nat) (u v : Value), i ≠ j → vs[i]? = some u → vs[j]? = some v → u.ownBlock = none ∨ u.ownBlock ≠ v.ownBlock) (hbase : base ≤ w.heap.size) :
    Calls Try.prog 18 #[.slice (some ⟨b0, 0, none⟩) vs.length c0] w fun e w' => e = .returned (.bool true) ∧ Below base w w' := by
  have HX := Aside0.mk hx
  have HD := Aside0.mk hd
  have HO := Aside0.mk ho
  have HH := Aside0.mk hb0
  have HBS := Aside0.mk hbase
  clear hx hd ho hb0 hbase
  go_enter Try.func18, Try.ntmps18
  go_wp2
  go_loopw [15] (fun v15 wr => ∃ k : Nat, k ≤ vs.length ∧ v15 = .int .i64 k ∧ Aside0 (∀ (i : Nat) (v : Value), vs[i]? = some v → Ow wr base v (ph1 xss k 0 i)) ∧ Aside0 (wr.heap[b0]? = some (.cells vs.toArray 22 (0, 0))) ∧ Aside0 (Below base w wr)) (fun v15 _ => vs.length - (intOf v15).toNat)
  case atStart =>
    refine ⟨0, by omega, rfl, ⟨?_⟩, HH, ⟨Below.refl _ _⟩⟩
    intro i v hv
    have e : ph1 xss 0 0 i = xss i := by
      unfold ph1
      rw [if_neg (by omega)]
      split
      · exact patO_zero _ _
      · rfl
    rw [e]
    exact HO.out i v hv
  case round =>
    clear HO HH
    obtain ⟨k, hk, rfl, HO, HH, HB⟩ := hrel
    by_cases hlt : k < vs.length
    · obtain ⟨A, c, hv⟩ : ∃ (A : Option Addr) (c : Nat), vs[k]? = some (.slice A (xss k).length c) := by
        obtain ⟨A, c, he, -⟩ := Kd.R_reads (Ow_R (HO.out k vs[k] (by simp [hlt])))
        rw [ph1_len xss k 0 k (by omega)] at he
        exact ⟨A, c, by rw [List.getElem?_eq_getElem hlt, he]⟩
      have HV := Aside0.mk hv
      have hcell : wr.cell? ⟨b0, k, none⟩ = some (.slice A (xss k).length c) := by
        have := HH.out
        simp [World.cell?, this, hv]
      have hkl : (k : Int) < vs.length := by omega
      have hnk := HX.out k
      clear hv
      generalize hnn : (xss k).length = n at *
      have HN := Aside0.mk hnn
      clear hnn
      go_wp2
      clear hcell
      go_loopw [22] (fun v22 wz => ∃ j : Nat, j ≤ n ∧ v22 = .int .i64 j ∧ Aside0 (∀ (i : Nat) (v : Value), vs[i]? = some v → Ow wz base v (ph1 xss k j i)) ∧ Aside0 (wz.heap[b0]? = some (.cells vs.toArray 22 (0, 0))) ∧ Aside0 (Below base w wz)) (fun v22 _ => n - (intOf v22).toNat)
      case atStart => exact ⟨0, by omega, rfl, HO, HH, HB⟩
      case round =>
        clear HO HH HB
        obtain ⟨j, hj, rfl, HO, HH, HB⟩ := hrel
        by_cases hjl : j < n
        · have hown := HO.out k _ HV.out
          have hlen : (ph1 xss k j k).length = n := by rw [ph1_len xss k j k (by rw [HN.out]; omega), HN.out]
          have hRk := Ow_R hown
          obtain ⟨g, cap, hgv, hgb, hgl, -⟩ := Kd.R_form hRk (by omega)
          injection hgv with hA e3 e4
          subst hA
          clear e3 e4
          obtain ⟨hold, hf⟩ := Kd.R_celln (enc := Value.int .u8) (h1 := fun _ => rfl) 0 hRk (j : Int) (by omega) (by omega)
          rw [Int.toNat_natCast] at hf hold
          have HRK := Aside0.mk hRk
          have HLEN := Aside0.mk hlen
          have hjl2 : (j : Int) < n := by omega
          clear hown hRk hlen hgl
          go_wp2
          obtain ⟨h1, h2⟩ := ph1_store HO.out HV.out HN.out hjl HD.out
          refine ⟨⟨j + 1, by omega, by go_num, ⟨h1⟩, ⟨?_⟩, ⟨HB.out.setCell (p := ⟨g, j, none⟩) hgb _⟩⟩, by simp [intOf]; omega⟩
          have hlt0 : b0 < wr.heap.size := by
            rcases Nat.lt_or_ge b0 wr.heap.size with h4 | h4
            · exact h4
            · have := HH.out
              rw [Array.getElem?_eq_none h4] at this
              cases this
          rw [h2.block b0 hlt0 (own_ne (HO.out k _ HV.out) HH.out (by decide))]
          exact HH.out
        · obtain rfl : j = n := by omega
          go_wp2
          refine ⟨⟨k + 1, by omega, by go_num, ⟨?_⟩, HH, HB⟩, by simp [intOf]; omega⟩
          intro i v hi
          have := HO.out i v hi
          rw [← HN.out, ph1_next] at this
          exact this
    · obtain rfl : k = vs.length := by omega
      have H1 : Aside0 (∀ (i : Nat) (v : Value), vs[i]? = some v → Ow wr base v (pat i (xss i).length)) := ⟨by
        intro i v hi
        have := HO.out i v hi
        unfold ph1 at this
        rw [if_pos (by have := List.getElem?_eq_some_iff.1 hi; obtain ⟨h, _⟩ := this; exact h)] at this
        exact this⟩
      have hb0S : b0 < wr.heap.size := by
        rcases Nat.lt_or_ge b0 wr.heap.size with h4 | h4
        · exact h4
        · have := HH.out
          rw [Array.getElem?_eq_none h4] at this
          cases this
      have HS : Aside0 (∀ (i : Nat) (v : Value) (b : Nat), vs[i]? = some v → v.ownBlock = some b → b < wr.heap.size) := ⟨fun i v b hi hb => Ow_lt (H1.out i v hi) b hb⟩
      have hbsz : base ≤ wr.heap.size := Nat.le_trans HBS.out HB.out.size
      have HBZ := Aside0.mk hbsz
      have HB0 := Aside0.mk hb0S
      have HPH : Aside0 (ph2 vs xss b0 base wr.heap.size w (wr.alloc (.cells #[] 22)) [] (.slice (some ⟨wr.heap.size, 0, none⟩) 0 0)) := ⟨by
        refine ⟨fun i u hi => by simp at hi, fun i v hi => (H1.out i v hi).alloc _, fun i u v hi => by simp at hi, fun i j u u' _ hi => by simp at hi, ?_, World.ownsRow_made wr _ 0 hbsz (by unfold maxLen; omega) (by simp), HB.out.alloc hbsz _, by simp, ?_⟩
        · rw [heap_alloc_old wr _ hb0S]
          exact HH.out
        · intro b hb
          simp [Value.ownBlock] at hb
          omega⟩
      clear HO hb0S hbsz H1 HH HB
      go_wp2
      generalize hS : wr.heap.size = S at *
      go_loopw [6, 40] (fun v6 v40 wz => ∃ (k : Nat) (us : List Value), k ≤ vs.length ∧ us.length = k ∧ v40 = .int .i64 k ∧ Aside0 (ph2 vs xss b0 base S w wz us v6)) (fun _ v40 _ => vs.length - (intOf v40).toNat)
      case atStart => exact ⟨0, [], by omega, rfl, rfl, HPH⟩
      case round =>
        clear HPH
        obtain ⟨k, us, hk, hus, rfl, HPH⟩ := hrel
        have HUS := Aside0.mk hus
        clear hus
        by_cases hlt2 : k < vs.length
        · obtain ⟨A, c, hv⟩ : ∃ (A : Option Addr) (c : Nat), vs[k]? = some (.slice A (xss k).length c) := by
            obtain ⟨A, c, he, -⟩ := Kd.R_reads (Ow_R (HPH.out.2.1 k vs[k] (by simp [hlt2])))
            rw [pat_len] at he
            exact ⟨A, c, by rw [List.getElem?_eq_getElem hlt2, he]⟩
          have HV := Aside0.mk hv
          obtain ⟨-, Hc, Hd1, -, Hh, -, HBz, Hsz, -⟩ := HPH.out
          have hcell : wr.cell? ⟨b0, k, none⟩ = some (.slice A (xss k).length c) := by
            simp [World.cell?, Hh, hv]
          have hkl : (k : Int) < vs.length := by omega
          have hnk := HX.out k
          have HL0 : Aside0 (ph2l vs us S base (xss k).length wr k (xss k).length (.slice A (xss k).length c)) := ⟨by
            have hown := Hc k _ hv
            refine ⟨hown, ?_, fun i u hi => ?_⟩
            · rcases hown.2 with ⟨h0, _⟩ | ⟨g2, cap2, cur, he, _⟩
              · exact .inr (.inl ⟨_, hv, by rw [h0]; rfl, by rw [h0]; rfl⟩)
              · injection he with hA hq hcc
                subst hA hcc
                exact .inl ⟨g2, c, hv, rfl⟩
            · have hik : i ≠ k := by
                have h3 := (List.getElem?_eq_some_iff.1 hi).1
                rw [HUS.out] at h3
                omega
              have hil : i < vs.length := by
                have h3 := (List.getElem?_eq_some_iff.1 hi).1
                rw [HUS.out] at h3
                omega
              have hvi : vs[i]? = some vs[i] := by simp [hil]
              rcases Hd1 i u _ hi hvi with h3 | ⟨b, h3, hb3⟩
              · rcases HD.out k i _ _ (Ne.symm hik) hv hvi with h4 | h4
                · exact .inl h4
                · exact .inr (by rw [h3]; exact h4)
              · right
                intro e
                have := HS.out k _ b hv (by rw [e, h3])
                omega⟩
          clear hv Hc Hd1 Hh HBz Hsz
          generalize hnn : (xss k).length = n at *
          have HN := Aside0.mk hnn
          clear hnn
          go_wp2
          clear hcell
          go_loopw [8] (fun v8 wy => ∃ (m : Nat) (A : Option Addr) (c : Nat), n ≤ m ∧ m ≤ n + 10 ∧ v8 = .slice A m c ∧ Aside0 (ph2l vs us S base n wy k m v8) ∧ Aside0 (ph2 vs xss b0 base S w wy us u6)) (fun v8 _ => n + 10 - lenV v8)
          case atStart => exact ⟨n, A, c, by omega, by omega, rfl, HL0, HPH⟩
          case round =>
            clear HL0 HPH
            obtain ⟨m, A8, c8, hm1, hm2, rfl, HL, HPH⟩ := hrel
            by_cases hml : m < n + 10
            · have hml2 : (m : Int) < (n : Int) + 10 := by omega
              have hown : Aside0 (wr.ownsRow base 5 1 (.slice A8 m c8) m (encs (Value.int .u8) (pat k m))) := ⟨by
                have := HL.out.1
                unfold Ow at this
                rw [pat_len] at this
                exact this⟩
              have HBW : Aside0 (Below base w wr) := ⟨HPH.out.2.2.2.2.2.2.1⟩
              have HBZ2 : Aside0 (base ≤ wr.heap.size) := ⟨Nat.le_trans HBZ.out HPH.out.2.2.2.2.2.2.2.1⟩
              go_wp2_with (first | ((with_reducible refine gate_builtin (b := .append) (xs := #[.tmp 52, .tmp 61]) rfl ?_); at_builtin; refine app_exact (w0 := w) base rfl (.tmp 52) (.tmp 61) 22 5 (.int .u8 0) 1 rfl Try.underlying22 info5 rfl (by decide) _ m (encs (Value.int .u8) (pat k m)) (.int .u8 ((31 * (k : Int) + 3 * (m : Int) + 1) % 256)) rfl rfl rfl hown.out HBW.out HBZ2.out (by omega) ?_; intro v1 w1 h1 hb hg; have HN2 := Aside0.mk (ph2_app HPH.out HL.out HN.out hm1 HS.out HD.out HB0.out h1 hb hg); clear h1 hb hg))
              obtain ⟨A9, c9, he, -⟩ := Kd.R_reads (Ow_R HN2.out.2.1)
              rw [pat_len] at he
              subst he
              exact ⟨⟨m + 1, A9, c9, by omega, by omega, rfl, ⟨HN2.out.2⟩, ⟨HN2.out.1⟩⟩, by simp [lenV]; omega⟩
            · obtain rfl : m = n + 10 := by omega
              have hml2 : ¬ ((n + 10 : Nat) : Int) < (n : Int) + 10 := by omega
              have HBW : Aside0 (Below base w wr) := ⟨HPH.out.2.2.2.2.2.2.1⟩
              have HBZ2 : Aside0 (base ≤ wr.heap.size) := ⟨Nat.le_trans HBZ.out HPH.out.2.2.2.2.2.2.2.1⟩
              have HF : Aside0 (wr.ownsRow base 22 1 u6 us.length us) := ⟨HPH.out.2.2.2.2.2.1⟩
              have hul := HUS.out
              go_wp2_with (first | ((with_reducible refine gate_builtin (b := .append) (xs := #[.tmp 63, .tmp 65]) rfl ?_); at_builtin; refine print_append_cells (w0 := w) base rfl (.tmp 63) (.tmp 65) 36 22 (.slice none 0 0) 1 24 rfl Try.underlying36 info22 rfl (by omega) (by omega) _ us.length us [.slice A8 (n + 10) c8] rfl rfl rfl (by simp [Value.oneCell']) HF.out HBW.out HBZ2.out (by omega) ?_; intro v1 w1 h1 hb hg hat; have HN2 := Aside0.mk (ph2_push HPH.out HL.out HUS.out HN.out HB0.out h1 hb hg hat); clear h1 hb hg hat))
              refine ⟨⟨k + 1, us ++ [.slice A8 (n + 10) c8], by omega, by rw [List.length_append, hul]; rfl, by go_num, HN2⟩, by simp [intOf]; omega⟩
        · obtain rfl : k = vs.length := by omega
          obtain ⟨Ha, Hc, -, -, Hh, Hf, HBW, -, -⟩ := HPH.out
          obtain ⟨A6, c6, rfl⟩ : ∃ (A6 : Option Addr) (c6 : Nat), u6 = .slice A6 vs.length c6 := by
            rcases Hf.2 with ⟨h0, h1⟩ | ⟨g, cap, cur, h0, _⟩
            · exact ⟨none, 0, by rw [h0, ← HUS.out, h1]⟩
            · exact ⟨_, _, by rw [h0, HUS.out]⟩
          have HHA := Aside0.mk Ha
          have HHC := Aside0.mk Hc
          have HHH := Aside0.mk Hh
          have HHF := Aside0.mk Hf
          have HHB := Aside0.mk HBW
          clear Ha Hc Hh Hf HBW HPH HS HBZ HB0 HBS HD hS
          go_wp2
          go_loopw [70] (fun v70 wz => ∃ k q : Nat, k ≤ vs.length ∧ v70 = .int .i64 k ∧ wz = wr.drewN q) (fun v70 _ => vs.length - (intOf v70).toNat)
          case atStart => exact ⟨0, 0, by omega, rfl, rfl⟩
          case round =>
            obtain ⟨k, q, hk2, rfl, rfl⟩ := hrel
            by_cases hlt3 : k < vs.length
            · have hkl : (k : Int) < vs.length := by omega
              have hku : k < us.length := by rw [HUS.out]; exact hlt3
              have hu : us[k]? = some us[k] := by simp [hku]
              have hv : vs[k]? = some vs[k] := by simp [hlt3]
              have hou := Ow_R (HHA.out k _ hu)
              have hov := Ow_R (HHC.out k _ hv)
              obtain ⟨A1, c1, he1, -⟩ := Kd.R_reads hou
              obtain ⟨A2, c2, he2, -⟩ := Kd.R_reads hov
              rw [pat_len] at he1 he2
              have hnk := HX.out k
              have hg6 : ∃ g6, A6 = some ⟨g6, 0, none⟩ ∧ wr.cell? ⟨g6, k, none⟩ = some (.slice A1 ((xss k).length + 10) c1) := by
                rcases HHF.out.2 with ⟨h0, h1⟩ | ⟨g, cap, cur, h0, _⟩
                · omega
                · injection h0 with hA h2 h3
                  refine ⟨g, hA, ?_⟩
                  have := HHF.out.cells (g := g) (by rw [hA]; rfl) k us[k] hu
                  rw [he1, add_plain] at this
                  simpa using this
              obtain ⟨g6, rfl, hcell⟩ := hg6
              have hhead : wr.cell? ⟨b0, k, none⟩ = some (.slice A2 (xss k).length c2) := by
                have := HHH.out
                rw [he2] at hv
                simp [World.cell?, this, hv]
              rw [he1] at hou
              rw [he2] at hov
              have HC1 := Aside0.mk (Kd.R_reads' hou).2.2
              have HC2 := Aside0.mk (Kd.R_reads' hov).2.2
              rw [pat_len] at HC1 HC2
              clear hu hv hou hov he1 he2 hku
              generalize (xss k).length = n at *
              go_wp2
              clear hcell
              go_loopw [77] (fun v77 wz => ∃ j q : Nat, j ≤ n + 10 ∧ v77 = .int .i64 j ∧ wz = wr.drewN q) (fun v77 _ => n + 10 - (intOf v77).toNat)
              case atStart => exact ⟨0, q, by omega, rfl, rfl⟩
              case round =>
                obtain ⟨j, q2, hj, rfl, rfl⟩ := hrel
                by_cases hjl : j < n + 10
                · obtain ⟨ad, e1, hx1⟩ := Kd.at_int HC1.out j (by omega) (by omega)
                  subst e1
                  rw [pat_get k (n + 10) j hjl, Int.toNat_natCast] at hx1
                  have hj1 : (j : Int) < (n : Int) + 10 := by omega
                  have hj0 : (0 : Int) ≤ j := by omega
                  by_cases hjn : j < n
                  · obtain ⟨ad2, e2, hx2⟩ := Kd.at_int HC2.out j (by omega) (by omega)
                    subst e2
                    rw [pat_get k n j hjn, Int.toNat_natCast] at hx2
                    have hj2 : (j : Int) < (n : Int) := by omega
                    have hd2 : decide ((j : Int) < (n : Int)) = true := decide_eq_true hj2
                    go_wp2
                    have q0 : IntKind.i64.wrap (31 * (k : Int)) = 31 * (k : Int) := IntWalk.i64_in _ (by omega)
                    have q1 : IntKind.i64.wrap (3 * (j : Int)) = 3 * (j : Int) := IntWalk.i64_in _ (by omega)
                    have q3 : IntKind.i64.wrap (31 * (k : Int) + 3 * (j : Int)) = 31 * (k : Int) + 3 * (j : Int) := IntWalk.i64_in _ (by omega)
                    have q4 : IntKind.i64.wrap (31 * (k : Int) + 3 * (j : Int) + 1) = 31 * (k : Int) + 3 * (j : Int) + 1 := IntWalk.i64_in _ (by omega)
                    go_quiet (fail)
                    clear q0 q1 q3 q4
                    go_wp2
                    exact ⟨⟨j + 1, _, by omega, by go_num, rfl⟩, by simp [intOf]; omega⟩
                  · have hj2 : ¬ (j : Int) < (n : Int) := by omega
                    have hd2 : decide ((j : Int) < (n : Int)) = false := decide_eq_false hj2
                    go_wp2
                    have q0 : IntKind.i64.wrap (31 * (k : Int)) = 31 * (k : Int) := IntWalk.i64_in _ (by omega)
                    have q1 : IntKind.i64.wrap (3 * (j : Int)) = 3 * (j : Int) := IntWalk.i64_in _ (by omega)
                    have q3 : IntKind.i64.wrap (31 * (k : Int) + 3 * (j : Int)) = 31 * (k : Int) + 3 * (j : Int) := IntWalk.i64_in _ (by omega)
                    have q4 : IntKind.i64.wrap (31 * (k : Int) + 3 * (j : Int) + 1) = 31 * (k : Int) + 3 * (j : Int) + 1 := IntWalk.i64_in _ (by omega)
                    go_quiet (fail)
                    clear q0 q1 q3 q4
                    go_wp2
                    exact ⟨⟨j + 1, _, by omega, by go_num, rfl⟩, by simp [intOf]; omega⟩
                · obtain rfl : j = n + 10 := by omega
                  have hj2 : ¬ ((n + 10 : Nat) : Int) < (n : Int) + 10 := by omega
                  go_wp2
                  exact ⟨⟨k + 1, q2, by omega, by go_num, rfl⟩, by simp [intOf]; omega⟩
            · obtain rfl : k = vs.length := by omega
              go_wp2
              go_ret
              exact ⟨rfl, pw_below_drewN HHB.out _⟩

-- AUX apart3
theorem Ow_take {w : World} {base g n cap : Nat} {xs : List Int} (h : Ow w base (.slice (some ⟨g, 0, none⟩) n cap) xs) (k : Nat) (hk : k ≤ xs.length) : Ow w base (.slice (some ⟨g, 0, none⟩) k cap) (xs.take k) := by
  have hl : (xs.take k).length = k := by rw [List.length_take]; omega
  rcases h.2 with ⟨h0, _⟩ | ⟨g2, cap2, cur, he, hb, hh, hnc, hcm, hcs, htk⟩
  · cases h0
  · injection he with hA hn hc
    injection hA with hA
    injection hA with hA
    subst hA hc
    refine ⟨by rw [encs_length, Nat.mul_one], .inr ⟨g, cap, cur, by rw [hl], hb, hh, by rw [hl]; omega, hcm, hcs, ?_⟩⟩
    have := congrArg (List.take k) htk
    rw [List.take_take, Nat.min_eq_left (by omega)] at this
    rw [hl, Nat.mul_one, this]
    unfold encs
    rw [List.map_take]
theorem pw_hd {vs : List Value} (h : vs.Pairwise (fun u v => ∀ k, u.ownBlock = some k → v.ownBlock ≠ some k)) (i j : Nat) (u v : Value) (hij : i ≠ j) (hi : vs[i]? = some u) (hj : vs[j]? = some v) : u.ownBlock = none ∨ u.ownBlock ≠ v.ownBlock := by
  obtain ⟨li, ei⟩ := List.getElem?_eq_some_iff.1 hi
  obtain ⟨lj, ej⟩ := List.getElem?_eq_some_iff.1 hj
  cases hu : u.ownBlock with
  | none => exact .inl rfl
  | some k =>
    right
    intro e
    rcases Nat.lt_or_gt_of_ne hij with hlt | hlt
    · have := List.pairwise_iff_getElem.1 h i j li lj hlt
      rw [ei, ej] at this
      exact this k hu e.symm
    · have := List.pairwise_iff_getElem.1 h j i lj li hlt
      rw [ei, ej] at this
      exact this k e.symm hu

end Go.Proofs.Ytdfkecfmmcdgiaa.Hp
