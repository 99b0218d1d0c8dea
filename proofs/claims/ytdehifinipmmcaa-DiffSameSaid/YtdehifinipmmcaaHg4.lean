/- Contracts of functions of the given program, and what they lean on: written by this session's own program, out of hand texts laid into the kit's printer. -/
import Derived.BigQuiet
import Derived.Test.YtdehifinipmmcaaHp0
import Derived.Deep.DeepMust
import Derived.Deep.QuietTactic
import Derived.Test.YtdehifinipmmcaaHg1
import Derived.Test.YtdehifinipmmcaaHg2
import Derived.Test.YtdehifinipmmcaaHg3
namespace Go.Proofs.Ytdehifinipmmcaa.Hp
open Go.RowKit Go.Proofs.YtdehifinipmmcaaW.PrintWords Go.Proofs.YtdehifinipmmcaaW.PrintLast Go.Proofs.YtdehifinipmmcaaW.PrintMore
attribute [local go_sem] max2_int min2_int max_two min_two max_three min_three max_four min_four   -- for this text's walks alone
set_option linter.unusedVariables false
set_option linter.unusedSimpArgs false

/-! ### laminanum_Apart: function 18 -/
set_option maxHeartbeats 4000000 in
set_option maxRecDepth 100000 in
theorem laminanum_Apart.calls (vs : List Value) (xss : Nat → List Int) (b0 c0 base : Nat) (w : World) (hb0 : w.heap[b0]? = some (.cells vs.toArray 25 (0, 0))) (hn : vs.length ≤ 10) (hx : ∀ i, (xss i).length ≤ 100000)
    (ho : ∀ (i : Nat) (v : Value), vs[i]? = some v → Ow w base v (xss i)) (hd : ∀ (i j : Nat) (u v : Value), i ≠ j → vs[i]? = some u → vs[j]? = some v → u.ownBlock = none ∨ u.ownBlock ≠ v.ownBlock) (hbase : base ≤ w.heap.size) :
    Calls Try.prog 18 #[.slice (some ⟨b0, 0, none⟩) vs.length c0] w fun e w' => e = .returned (.bool true) ∧ Below base w w' := by
  have HX := Aside0.mk hx
  have HD := Aside0.mk hd
  have HO := Aside0.mk ho
  have HH := Aside0.mk hb0
  have HBS := Aside0.mk hbase
  clear hx hd ho hb0 hbase
  go_enter Try.func18, Try.ntmps18
  go_wp2
  go_loopw [15] (fun v15 wr => ∃ k : Nat, k ≤ vs.length ∧ v15 = .int .i64 k ∧ Aside0 (∀ (i : Nat) (v : Value), vs[i]? = some v → Ow wr base v (ph1 xss k 0 i)) ∧ Aside0 (wr.heap[b0]? = some (.cells vs.toArray 25 (0, 0))) ∧ Aside0 (Below base w wr)) (fun v15 _ => vs.length - (intOf v15).toNat)
  case atStart =>
    refine ⟨0, by omega, rfl, ⟨?_⟩, HH, ⟨Below.refl _ _⟩⟩
    intro i v hv
    have e : ph1 xss 0 0 i = xss i := by
      unfold ph1
      rw [if_neg (by omega)]
      split
      · exact patO_zero _ _
      · rfl
    rw [e]
    exact HO.out i v hv
  case round =>
    clear HO HH
    obtain ⟨k, hk, rfl, HO, HH, HB⟩ := hrel
    by_cases hlt : k < vs.length
    · obtain ⟨A, c, hv⟩ : ∃ (A : Option Addr) (c : Nat), vs[k]? = some (.slice A (xss k).length c) := by
        obtain ⟨A, c, he, -⟩ := Kd.R_reads (Ow_R (HO.out k vs[k] (by simp [hlt])))
        rw [ph1_len xss k 0 k (by omega)] at he
        exact ⟨A, c, by rw [List.getElem?_eq_getElem hlt, he]⟩
      have HV := Aside0.mk hv
      have hcell : wr.cell? ⟨b0, k, none⟩ = some (.slice A (xss k).length c) := by
        have := HH.out
        simp [World.cell?, this, hv]
      have hkl : (k : Int) < vs.length := by omega
      have hnk := HX.out k
      clear hv
      generalize hnn : (xss k).length = n at *
      have HN := Aside0.mk hnn
      clear hnn
      go_wp2
      clear hcell
      go_loopw [22] (fun v22 wz => ∃ j : Nat, j ≤ n ∧ v22 = .int .i64 j ∧ Aside0 (∀ (i : Nat) (v : Value), vs[i]? = some v → Ow wz base v (ph1 xss k j i)) ∧ Aside0 (wz.heap[b0]? = some (.cells vs.toArray 25 (0, 0))) ∧ Aside0 (Below base w wz)) (fun v22 _ => n - (intOf v22).toNat)
      case atStart => exact ⟨0, by omega, rfl, HO, HH, HB⟩
      case round =>
        clear HO HH HB
        obtain ⟨j, hj, rfl, HO, HH, HB⟩ := hrel
        by_cases hjl : j < n
        · have hown := HO.out k _ HV.out
          have hlen : (ph1 xss k j k).length = n := by rw [ph1_len xss k j k (by rw [HN.out]; omega), HN.out]
          have hRk := Ow_R hown
          obtain ⟨g, cap, hgv, hgb, hgl, -⟩ := Kd.R_form hRk (by omega)
          injection hgv with hA e3 e4
          subst hA
          clear e3 e4
          obtain ⟨hold, hf⟩ := Kd.R_celln (enc := Value.int .u8) (h1 := fun _ => rfl) 0 hRk (j : Int) (by omega) (by omega)
          rw [Int.toNat_natCast] at hf hold
          have HRK := Aside0.mk hRk
          have HLEN := Aside0.mk hlen
          have hjl2 : (j : Int) < n := by omega
          clear hown hRk hlen hgl
          go_wp2
          obtain ⟨h1, h2⟩ := ph1_store HO.out HV.out HN.out hjl HD.out
          refine ⟨⟨j + 1, by omega, by go_num, ⟨h1⟩, ⟨?_⟩, ⟨HB.out.setCell (p := ⟨g, j, none⟩) hgb _⟩⟩, by simp [intOf]; omega⟩
          have hlt0 : b0 < wr.heap.size := by
            rcases Nat.lt_or_ge b0 wr.heap.size with h4 | h4
            · exact h4
            · have := HH.out
              rw [Array.getElem?_eq_none h4] at this
              cases this
          rw [h2.block b0 hlt0 (own_ne (HO.out k _ HV.out) HH.out (by decide))]
          exact HH.out
        · obtain rfl : j = n := by omega
          go_wp2
          refine ⟨⟨k + 1, by omega, by go_num, ⟨?_⟩, HH, HB⟩, by simp [intOf]; omega⟩
          intro i v hi
          have := HO.out i v hi
          rw [← HN.out, ph1_next] at this
          exact this
    · obtain rfl : k = vs.length := by omega
      have H1 : Aside0 (∀ (i : Nat) (v : Value), vs[i]? = some v → Ow wr base v (pat i (xss i).length)) := ⟨by
        intro i v hi
        have := HO.out i v hi
        unfold ph1 at this
        rw [if_pos (by have := List.getElem?_eq_some_iff.1 hi; obtain ⟨h, _⟩ := this; exact h)] at this
        exact this⟩
      have hb0S : b0 < wr.heap.size := by
        rcases Nat.lt_or_ge b0 wr.heap.size with h4 | h4
        · exact h4
        · have := HH.out
          rw [Array.getElem?_eq_none h4] at this
          cases this
      have HS : Aside0 (∀ (i : Nat) (v : Value) (b : Nat), vs[i]? = some v → v.ownBlock = some b → b < wr.heap.size) := ⟨fun i v b hi hb => Ow_lt (H1.out i v hi) b hb⟩
      have hbsz : base ≤ wr.heap.size := Nat.le_trans HBS.out HB.out.size
      have HBZ := Aside0.mk hbsz
      have HB0 := Aside0.mk hb0S
      have HPH : Aside0 (ph2 vs xss b0 base wr.heap.size w (wr.alloc (.cells #[] 25)) [] (.slice (some ⟨wr.heap.size, 0, none⟩) 0 0)) := ⟨by
        refine ⟨fun i u hi => by simp at hi, fun i v hi => (H1.out i v hi).alloc _, fun i u v hi => by simp at hi, fun i j u u' _ hi => by simp at hi, ?_, World.ownsRow_made wr _ 0 hbsz (by unfold maxLen; omega) (by simp), HB.out.alloc hbsz _, by simp, ?_⟩
        · rw [heap_alloc_old wr _ hb0S]
          exact HH.out
        · intro b hb
          simp [Value.ownBlock] at hb
          omega⟩
      clear HO hb0S hbsz H1 HH HB
      go_wp2
      generalize hS : wr.heap.size = S at *
      go_loopw [6, 40] (fun v6 v40 wz => ∃ (k : Nat) (us : List Value), k ≤ vs.length ∧ us.length = k ∧ v40 = .int .i64 k ∧ Aside0 (ph2 vs xss b0 base S w wz us v6)) (fun _ v40 _ => vs.length - (intOf v40).toNat)
      case atStart => exact ⟨0, [], by omega, rfl, rfl, HPH⟩
      case round =>
        clear HPH
        obtain ⟨k, us, hk, hus, rfl, HPH⟩ := hrel
        have HUS := Aside0.mk hus
        clear hus
        by_cases hlt2 : k < vs.length
        · obtain ⟨A, c, hv⟩ : ∃ (A : Option Addr) (c : Nat), vs[k]? = some (.slice A (xss k).length c) := by
            obtain ⟨A, c, he, -⟩ := Kd.R_reads (Ow_R (HPH.out.2.1 k vs[k] (by simp [hlt2])))
            rw [pat_len] at he
            exact ⟨A, c, by rw [List.getElem?_eq_getElem hlt2, he]⟩
          have HV := Aside0.mk hv
          obtain ⟨-, Hc, Hd1, -, Hh, -, HBz, Hsz, -⟩ := HPH.out
          have hcell : wr.cell? ⟨b0, k, none⟩ = some (.slice A (xss k).length c) := by
            simp [World.cell?, Hh, hv]
          have hkl : (k : Int) < vs.length := by omega
          have hnk := HX.out k
          have HL0 : Aside0 (ph2l vs us S base (xss k).length wr k (xss k).length (.slice A (xss k).length c)) := ⟨by
            have hown := Hc k _ hv
            refine ⟨hown, ?_, fun i u hi => ?_⟩
            · rcases hown.2 with ⟨h0, _⟩ | ⟨g2, cap2, cur, he, _⟩
              · exact .inr (.inl ⟨_, hv, by rw [h0]; rfl, by rw [h0]; rfl⟩)
              · injection he with hA hq hcc
                subst hA hcc
                exact .inl ⟨g2, c, hv, rfl⟩
            · have hik : i ≠ k := by
                have h3 := (List.getElem?_eq_some_iff.1 hi).1
                rw [HUS.out] at h3
                omega
              have hil : i < vs.length := by
                have h3 := (List.getElem?_eq_some_iff.1 hi).1
                rw [HUS.out] at h3
                omega
              have hvi : vs[i]? = some vs[i] := by simp [hil]
              rcases Hd1 i u _ hi hvi with h3 | ⟨b, h3, hb3⟩
              · rcases HD.out k i _ _ (Ne.symm hik) hv hvi with h4 | h4
                · exact .inl h4
                · exact .inr (by rw [h3]; exact h4)
              · right
                intro e
                have := HS.out k _ b hv (by rw [e, h3])
                omega⟩
          clear hv Hc Hd1 Hh HBz Hsz
          generalize hnn : (xss k).length = n at *
          have HN := Aside0.mk hnn
          clear hnn
          go_wp2
          clear hcell
          go_loopw [8] (fun v8 wy => ∃ (m : Nat) (A : Option Addr) (c : Nat), n ≤ m ∧ m ≤ n + 10 ∧ v8 = .slice A m c ∧ Aside0 (ph2l vs us S base n wy k m v8) ∧ Aside0 (ph2 vs xss b0 base S w wy us u6)) (fun v8 _ => n + 10 - lenV v8)
          case atStart => exact ⟨n, A, c, by omega, by omega, rfl, HL0, HPH⟩
          case round =>
            clear HL0 HPH
            obtain ⟨m, A8, c8, hm1, hm2, rfl, HL, HPH⟩ := hrel
            by_cases hml : m < n + 10
            · have hml2 : (m : Int) < (n : Int) + 10 := by omega
              have hown : Aside0 (wr.ownsRow base 5 1 (.slice A8 m c8) m (encs (Value.int .u8) (pat k m))) := ⟨by
                have := HL.out.1
                unfold Ow at this
                rw [pat_len] at this
                exact this⟩
              have HBW : Aside0 (Below base w wr) := ⟨HPH.out.2.2.2.2.2.2.1⟩
              have HBZ2 : Aside0 (base ≤ wr.heap.size) := ⟨Nat.le_trans HBZ.out HPH.out.2.2.2.2.2.2.2.1⟩
              go_wp2_with (first | ((with_reducible refine gate_builtin (b := .append) (xs := #[.tmp 52, .tmp 61]) rfl ?_); at_builtin; refine app_exact (w0 := w) base rfl (.tmp 52) (.tmp 61) 25 5 (.int .u8 0) 1 rfl Try.underlying25 info5 rfl (by decide) _ m (encs (Value.int .u8) (pat k m)) (.int .u8 ((31 * (k : Int) + 3 * (m : Int) + 1) % 256)) rfl rfl rfl hown.out HBW.out HBZ2.out (by omega) ?_; intro v1 w1 h1 hb hg; have HN2 := Aside0.mk (ph2_app HPH.out HL.out HN.out hm1 HS.out HD.out HB0.out h1 hb hg); clear h1 hb hg))
              obtain ⟨A9, c9, he, -⟩ := Kd.R_reads (Ow_R HN2.out.2.1)
              rw [pat_len] at he
              subst he
              exact ⟨⟨m + 1, A9, c9, by omega, by omega, rfl, ⟨HN2.out.2⟩, ⟨HN2.out.1⟩⟩, by simp [lenV]; omega⟩
            · obtain rfl : m = n + 10 := by omega
              have hml2 : ¬ ((n + 10 : Nat) : Int) < (n : Int) + 10 := by omega
              have HBW : Aside0 (Below base w wr) := ⟨HPH.out.2.2.2.2.2.2.1⟩
              have HBZ2 : Aside0 (base ≤ wr.heap.size) := ⟨Nat.le_trans HBZ.out HPH.out.2.2.2.2.2.2.2.1⟩
              have HF : Aside0 (wr.ownsRow base 25 1 u6 us.length us) := ⟨HPH.out.2.2.2.2.2.1⟩
              have hul := HUS.out
              go_wp2_with (first | ((with_reducible refine gate_builtin (b := .append) (xs := #[.tmp 63, .tmp 65]) rfl ?_); at_builtin; refine print_append_cells (w0 := w) base rfl (.tmp 63) (.tmp 65) 42 25 (.slice none 0 0) 1 24 rfl Try.underlying42 info25 rfl (by omega) (by omega) _ us.length us [.slice A8 (n + 10) c8] rfl rfl rfl (by simp [Value.oneCell']) HF.out HBW.out HBZ2.out (by omega) ?_; intro v1 w1 h1 hb hg hat; have HN2 := Aside0.mk (ph2_push HPH.out HL.out HUS.out HN.out HB0.out h1 hb hg hat); clear h1 hb hg hat))
              refine ⟨⟨k + 1, us ++ [.slice A8 (n + 10) c8], by omega, by rw [List.length_append, hul]; rfl, by go_num, HN2⟩, by simp [intOf]; omega⟩
        · obtain rfl : k = vs.length := by omega
          obtain ⟨Ha, Hc, -, -, Hh, Hf, HBW, -, -⟩ := HPH.out
          obtain ⟨A6, c6, rfl⟩ : ∃ (A6 : Option Addr) (c6 : Nat), u6 = .slice A6 vs.length c6 := by
            rcases Hf.2 with ⟨h0, h1⟩ | ⟨g, cap, cur, h0, _⟩
            · exact ⟨none, 0, by rw [h0, ← HUS.out, h1]⟩
            · exact ⟨_, _, by rw [h0, HUS.out]⟩
          have HHA := Aside0.mk Ha
          have HHC := Aside0.mk Hc
          have HHH := Aside0.mk Hh
          have HHF := Aside0.mk Hf
          have HHB := Aside0.mk HBW
          clear Ha Hc Hh Hf HBW HPH HS HBZ HB0 HBS HD hS
          go_wp2
          go_loopw [70] (fun v70 wz => ∃ k q : Nat, k ≤ vs.length ∧ v70 = .int .i64 k ∧ wz = wr.drewN q) (fun v70 _ => vs.length - (intOf v70).toNat)
          case atStart => exact ⟨0, 0, by omega, rfl, rfl⟩
          case round =>
            obtain ⟨k, q, hk2, rfl, rfl⟩ := hrel
            by_cases hlt3 : k < vs.length
            · have hkl : (k : Int) < vs.length := by omega
              have hku : k < us.length := by rw [HUS.out]; exact hlt3
              have hu : us[k]? = some us[k] := by simp [hku]
              have hv : vs[k]? = some vs[k] := by simp [hlt3]
              have hou := Ow_R (HHA.out k _ hu)
              have hov := Ow_R (HHC.out k _ hv)
              obtain ⟨A1, c1, he1, -⟩ := Kd.R_reads hou
              obtain ⟨A2, c2, he2, -⟩ := Kd.R_reads hov
              rw [pat_len] at he1 he2
              have hnk := HX.out k
              have hg6 : ∃ g6, A6 = some ⟨g6, 0, none⟩ ∧ wr.cell? ⟨g6, k, none⟩ = some (.slice A1 ((xss k).length + 10) c1) := by
                rcases HHF.out.2 with ⟨h0, h1⟩ | ⟨g, cap, cur, h0, _⟩
                · omega
                · injection h0 with hA h2 h3
                  refine ⟨g, hA, ?_⟩
                  have := HHF.out.cells (g := g) (by rw [hA]; rfl) k us[k] hu
                  rw [he1, add_plain] at this
                  simpa using this
              obtain ⟨g6, rfl, hcell⟩ := hg6
              have hhead : wr.cell? ⟨b0, k, none⟩ = some (.slice A2 (xss k).length c2) := by
                have := HHH.out
                rw [he2] at hv
                simp [World.cell?, this, hv]
              rw [he1] at hou
              rw [he2] at hov
              have HC1 := Aside0.mk (Kd.R_reads' hou).2.2
              have HC2 := Aside0.mk (Kd.R_reads' hov).2.2
              rw [pat_len] at HC1 HC2
              clear hu hv hou hov he1 he2 hku
              generalize (xss k).length = n at *
              go_wp2
              clear hcell
              go_loopw [77] (fun v77 wz => ∃ j q : Nat, j ≤ n + 10 ∧ v77 = .int .i64 j ∧ wz = wr.drewN q) (fun v77 _ => n + 10 - (intOf v77).toNat)
              case atStart => exact ⟨0, q, by omega, rfl, rfl⟩
              case round =>
                obtain ⟨j, q2, hj, rfl, rfl⟩ := hrel
                by_cases hjl : j < n + 10
                · obtain ⟨ad, e1, hx1⟩ := Kd.at_int HC1.out j (by omega) (by omega)
                  subst e1
                  rw [pat_get k (n + 10) j hjl, Int.toNat_natCast] at hx1
                  have hj1 : (j : Int) < (n : Int) + 10 := by omega
                  have hj0 : (0 : Int) ≤ j := by omega
                  by_cases hjn : j < n
                  · obtain ⟨ad2, e2, hx2⟩ := Kd.at_int HC2.out j (by omega) (by omega)
                    subst e2
                    rw [pat_get k n j hjn, Int.toNat_natCast] at hx2
                    have hj2 : (j : Int) < (n : Int) := by omega
                    have hd2 : decide ((j : Int) < (n : Int)) = true := decide_eq_true hj2
                    go_wp2
                    have q0 : IntKind.i64.wrap (31 * (k : Int)) = 31 * (k : Int) := IntWalk.i64_in _ (by omega)
                    have q1 : IntKind.i64.wrap (3 * (j : Int)) = 3 * (j : Int) := IntWalk.i64_in _ (by omega)
                    have q3 : IntKind.i64.wrap (31 * (k : Int) + 3 * (j : Int)) = 31 * (k : Int) + 3 * (j : Int) := IntWalk.i64_in _ (by omega)
                    have q4 : IntKind.i64.wrap (31 * (k : Int) + 3 * (j : Int) + 1) = 31 * (k : Int) + 3 * (j : Int) + 1 := IntWalk.i64_in _ (by omega)
                    go_quiet (fail)
                    clear q0 q1 q3 q4
                    go_wp2
                    exact ⟨⟨j + 1, _, by omega, by go_num, rfl⟩, by simp [intOf]; omega⟩
                  · have hj2 : ¬ (j : Int) < (n : Int) := by omega
                    have hd2 : decide ((j : Int) < (n : Int)) = false := decide_eq_false hj2
                    go_wp2
                    have q0 : IntKind.i64.wrap (31 * (k : Int)) = 31 * (k : Int) := IntWalk.i64_in _ (by omega)
                    have q1 : IntKind.i64.wrap (3 * (j : Int)) = 3 * (j : Int) := IntWalk.i64_in _ (by omega)
                    have q3 : IntKind.i64.wrap (31 * (k : Int) + 3 * (j : Int)) = 31 * (k : Int) + 3 * (j : Int) := IntWalk.i64_in _ (by omega)
                    have q4 : IntKind.i64.wrap (31 * (k : Int) + 3 * (j : Int) + 1) = 31 * (k : Int) + 3 * (j : Int) + 1 := IntWalk.i64_in _ (by omega)
                    go_quiet (fail)
                    clear q0 q1 q3 q4
                    go_wp2
                    exact ⟨⟨j + 1, _, by omega, by go_num, rfl⟩, by simp [intOf]; omega⟩
                · obtain rfl : j = n + 10 := by omega
                  have hj2 : ¬ ((n + 10 : Nat) : Int) < (n : Int) + 10 := by omega
                  go_wp2
                  exact ⟨⟨k + 1, q2, by omega, by go_num, rfl⟩, by simp [intOf]; omega⟩
            · obtain rfl : k = vs.length := by omega
              go_wp2
              go_ret
              exact ⟨rfl, pw_below_drewN HHB.out _⟩

-- AUX apart3
theorem Ow_take {w : World} {base g n cap : Nat} {xs : List Int} (h : Ow w base (.slice (some ⟨g, 0, none⟩) n cap) xs) (k : Nat) (hk : k ≤ xs.length) : Ow w base (.slice (some ⟨g, 0, none⟩) k cap) (xs.take k) := by
  have hl : (xs.take k).length = k := by rw [List.length_take]; omega
  rcases h.2 with ⟨h0, _⟩ | ⟨g2, cap2, cur, he, hb, hh, hnc, hcm, hcs, htk⟩
  · cases h0
  · injection he with hA hn hc
    injection hA with hA
    injection hA with hA
    subst hA hc
    refine ⟨by rw [encs_length, Nat.mul_one], .inr ⟨g, cap, cur, by rw [hl], hb, hh, by rw [hl]; omega, hcm, hcs, ?_⟩⟩
    have := congrArg (List.take k) htk
    rw [List.take_take, Nat.min_eq_left (by omega)] at this
    rw [hl, Nat.mul_one, this]
    unfold encs
    rw [List.map_take]
theorem pw_hd {vs : List Value} (h : vs.Pairwise (fun u v => ∀ k, u.ownBlock = some k → v.ownBlock ≠ some k)) (i j : Nat) (u v : Value) (hij : i ≠ j) (hi : vs[i]? = some u) (hj : vs[j]? = some v) : u.ownBlock = none ∨ u.ownBlock ≠ v.ownBlock := by
  obtain ⟨li, ei⟩ := List.getElem?_eq_some_iff.1 hi
  obtain ⟨lj, ej⟩ := List.getElem?_eq_some_iff.1 hj
  cases hu : u.ownBlock with
  | none => exact .inl rfl
  | some k =>
    right
    intro e
    rcases Nat.lt_or_gt_of_ne hij with hlt | hlt
    · have := List.pairwise_iff_getElem.1 h i j li lj hlt
      rw [ei, ej] at this
      exact this k hu e.symm
    · have := List.pairwise_iff_getElem.1 h j i lj li hlt
      rw [ei, ej] at this
      exact this k e.symm hu

/-! ### laminaref17_Between: function 24 -/
def toR (r : S61) : S65 := ⟨r.f0, r.f1, r.f2, r.f3⟩
theorem str_inj {a b : List Int} (ha : ∀ x ∈ a, 0 ≤ x ∧ x < 256) (hb : ∀ x ∈ b, 0 ≤ x ∧ x < 256) (h : strOfNums a = strOfNums b) : a = b := by
  have hd : ∀ l : List Int, (∀ x ∈ l, 0 ≤ x ∧ x < 256) → (strOfNums l).data.toList.map (fun c : UInt8 => (c.toNat : Int)) = l := by
    intro l hl
    rw [strOfNums_data]
    induction l with
    | nil => rfl
    | cons x l ih =>
      have hx := hl x (List.mem_cons_self ..)
      simp only [List.map_cons]
      rw [ih (fun y hy => hl y (List.mem_cons_of_mem _ hy))]
      congr 1
      rw [UInt8.toNat_ofNat']
      omega
  rw [← hd a ha, ← hd b hb, h]
theorem seg_mem {l : List Int} {a m : Nat} (h : ∀ x ∈ l, 0 ≤ x ∧ x < 256) : ∀ x ∈ seg l a m, 0 ≤ x ∧ x < 256 := fun x hx => h x (List.mem_of_mem_take (List.mem_of_mem_drop hx))
theorem szL_mem {l : List Int} {n : Nat} (h : ∀ x ∈ l, 0 ≤ x ∧ x < 256) : ∀ x ∈ szL l n, 0 ≤ x ∧ x < 256 := fun x hx => by
  unfold szL at hx
  rcases List.mem_append.1 hx with hx | hx
  · exact h x (List.mem_of_mem_take hx)
  · have := List.mem_of_mem_drop hx
    rw [List.eq_of_mem_replicate this]
    omega
theorem sz_set (w : World) (p : Addr) (v : Value) : (w.setCell p v).heap.size = w.heap.size := by simp [World.setCell]
theorem zeroB_snoc (l : List Int) (k : Nat) (h : k < l.length) : zeroB (l.take (k + 1)) = (zeroB (l.take k) && decide (rd l k = 0)) := by
  unfold zeroB
  rw [List.take_succ_eq_append_getElem h, List.any_append]
  simp [rd, h]
theorem resized_go (l : List Int) (n : Nat) (hn : n ≤ 1000000) : ∀ (m i k : Nat), i + m = n → m < k → laminaref17_Resized.l0 k l n (szL l i) i = some (szL l n) := by
  intro m
  induction m with
  | zero =>
    intro i k hi hk
    obtain ⟨k, rfl⟩ : ∃ k', k = k' + 1 := ⟨k - 1, by omega⟩
    rw [laminaref17_Resized.l0, if_neg (by omega), show i = n by omega]
  | succ m ih =>
    intro i k hi hk
    obtain ⟨k, rfl⟩ : ∃ k', k = k' + 1 := ⟨k - 1, by omega⟩
    have e : wrap64 ((i : Int) + 1) = ((i + 1 : Nat) : Int) := by unfold wrap64; omega
    have h := ih (i + 1) k (by omega) (by omega)
    rw [laminaref17_Resized.l0, if_pos (by omega), e]
    by_cases hl : i < l.length
    · rw [if_pos (by omega), if_pos (by omega), if_pos (by rw [szL_len]; omega)]
      have : szL l i ++ [rd l i] = szL l (i + 1) := by
        unfold szL
        rw [show min l.length i = i by omega, show min l.length (i + 1) = i + 1 by omega, List.drop_eq_nil_of_le (by simp), List.drop_eq_nil_of_le (by simp), List.append_nil, List.append_nil, List.take_succ_eq_append_getElem hl]
        simp [rd, hl]
      rw [this]
      exact h
    · rw [if_neg (by omega), if_pos (by rw [szL_len]; omega)]
      have : szL l i ++ [0] = szL l (i + 1) := by
        unfold szL
        rw [show min l.length i = l.length by omega, show min l.length (i + 1) = l.length by omega, List.take_of_length_le (Nat.le_refl _), List.drop_replicate, List.drop_replicate, List.append_assoc, show i + 1 - l.length = (i - l.length) + 1 by omega, List.replicate_succ']
      rw [this]
      exact h
theorem resized_f (l : List Int) (n : Nat) (hn : n ≤ 1000000) (k : Nat) (hk : n < k) : laminaref17_Resized.f k l n = some (szL l n) := by
  unfold laminaref17_Resized.f
  have := resized_go l n hn n 0 k (by omega) hk
  simpa [szL] using this
set_option maxHeartbeats 8000000 in
set_option maxRecDepth 100000 in
theorem laminaref17_Between.good (A0 : Option Addr) (c0 : Nat) (l0 : List Int) (A1 : Option Addr) (c1 : Nat) (l1 : List Int) (o : Nat) (w : World) (hr0 : Kd.C (Kd.int .u8) w A0 l0.length l0) (hc0 : l0.length ≤ c0) (hr1 : Kd.C (Kd.int .u8) w A1 l1.length l1) (hc1 : l1.length ≤ c1) (hl0 : l0.length ≤ 4096) (hl1 : l1.length ≤ 4096) (ho : o = 16 ∨ o = 32 ∨ o = 64 ∨ o = 128 ∨ o = 256) (hb0 : ∀ x ∈ l0, 0 ≤ x ∧ x < 256) (hb1 : ∀ x ∈ l1, 0 ≤ x ∧ x < 256) :
    Calls Try.prog 24 #[.slice A0 l0.length c0, .slice A1 l1.length c1, .int .i64 o, .slice none 0 0, .bool true] w fun e w' => ∃ v : Value, e = .returned (.agg #[.int .i64 l0.length, .int .i64 l1.length, v]) ∧ Kd.S k65 65 w' w.heap.size (fun _ => True) v ((btwL (szL l0 l1.length) l1 o (pcN l1.length o)).map toR) ∧ Below w.heap.size w w' := by
  have HR0 := Aside0.mk hr0
  have HR1 := Aside0.mk (Rk.of_C hr1)
  have HO := Aside0.mk ho
  have HBY := Aside0.mk (And.intro (szL_mem (n := l1.length) hb0) hb1)
  clear hr0 hr1 ho hb0 hb1
  go_enter Try.func24, Try.ntmps24
  go_wp2_with fail
  have hb10 := blk_alloc (blk_new w (.cells #[.int .i64 0, .int .i64 0, .slice none 0 0] 24)) (.cells #[.int .i64 l0.length, .int .i64 l1.length, .slice none 0 0] 24)
  have hb11 := blk_new (w.alloc (.cells #[.int .i64 0, .int .i64 0, .slice none 0 0] 24)) (.cells #[.int .i64 l0.length, .int .i64 l1.length, .slice none 0 0] 24)
  rw [show (w.alloc (.cells #[.int .i64 0, .int .i64 0, .slice none 0 0] 24)).heap.size = w.heap.size + 1 by simp] at hb11
  have hBW := below_alloc (below_alloc (Below.refl w.heap.size w) (.cells #[.int .i64 0, .int .i64 0, .slice none 0 0] 24)) (.cells #[.int .i64 l0.length, .int .i64 l1.length, .slice none 0 0] 24)
  refine (laminaref17_Resized.calls (l1.length + 1) A0 c0 l0 l1.length _ _ (Kd.C_below HR0.out hBW) hc0 (resized_f l0 l1.length (by omega) _ (by omega))).mono ?_
  rintro e w3 ⟨v3, rfl, ho3, hb3⟩
  have BK10 := Aside0.mk (blk_below hb10 hb3)
  have BK11 := Aside0.mk (blk_below hb11 hb3)
  have HB3 := Aside0.mk (below_step hBW hb3)
  have hsz3 := hb3.size
  have HW := Aside0.mk (Kd.R_mono (R_made_in ho3) (ok' := fun j => w.heap.size + 1 < j ∧ j < w3.heap.size) (fun j hj => by simp at hj; omega))
  obtain ⟨A3, c3, rfl, -⟩ := Kd.R_reads ho3
  rw [szL_len] at HW ⊢
  have hR1 := Aside0.mk (HR1.out.only (Only.of_below HB3.out (fun _ => False)) (fun _ _ h => h))
  have hw3 : w.heap.size + 1 < w3.heap.size := by simp at hsz3; omega
  clear ho3 hb3 hb10 hb11 hBW HR0 HR1 hsz3
  go_wp2
  go_loopw [13] (fun v13 wr => ∃ (i : Nat) (v : Value), i ≤ pcN l1.length o ∧ v13 = .int .i64 i ∧ Aside0 (Kd.S k65 65 wr w3.heap.size (fun _ => True) v ((btwL (szL l0 l1.length) l1 o i).map toR)) ∧ Aside0 (Only w3 wr (fun j => j = w.heap.size + 1)) ∧ Aside0 (wr.heap[w.heap.size + 1]? = some (.cells #[.int .i64 l0.length, .int .i64 l1.length, v] 24 (0, 0)))) (fun v13 _ => pcN l1.length o - (intOf v13).toNat)
  case atStart => exact ⟨0, _, by omega, rfl, ⟨Kd.S_nil _ _ _ _ _⟩, ⟨Only.refl _ _⟩, BK11⟩
  case round =>
    clear BK11
    obtain ⟨i, v, hi, rfl, HS, HN, BK11⟩ := hrel
    by_cases hlt : i < pcN l1.length o
    · have hm0 := pcN_lt l1.length o i HO.out hlt
      have HSTEP := Aside0.mk (show btwL (szL l0 l1.length) l1 o (i + 1) = btwL (szL l0 l1.length) l1 o i ++ (if seg (szL l0 l1.length) (i * o) (min o (l1.length - i * o)) = seg l1 (i * o) (min o (l1.length - i * o)) then [] else [recOf (i * o : Nat) (seg l1 (i * o) (min o (l1.length - i * o)))]) from rfl)
      have HBL := Aside0.mk (btwL_len (szL l0 l1.length) l1 o i)
      have HI := Aside0.mk (show i < 256 by have := pcN_le l1.length o hl1 HO.out; omega)
      have hm1 : 1 ≤ min o (l1.length - i * o) ∧ i * o + min o (l1.length - i * o) ≤ l1.length := by have := HO.out; omega
      have hmul : (i : Int) * (o : Int) = ((i * o : Nat) : Int) := by rw [Int.natCast_mul]
      have hom : o ≤ 256 := by have := HO.out; omega
      generalize i * o = a at *
      obtain ⟨hm1, hm2⟩ := hm1
      have hWr := R_only HW.out HN.out (fun j hj e => by omega)
      obtain ⟨g3, cap3, eg, -, -, -⟩ := Kd.R_form hWr (by rw [szL_len]; omega)
      injection eg with eA e3 e4
      subst eA e4
      obtain ⟨-, hc3, hC3⟩ := Kd.R_reads' hWr
      have hC1 := (hR1.out.only HN.out (fun j hj e => by omega)).row
      obtain ⟨ad1, e1, -⟩ := C_cells hC1 (by omega)
      subst e1
      have hM : ∀ m, m = min o (l1.length - a) → (m = o ∧ ¬ (a : Int) + o > l1.length) ∨ (a + m = l1.length ∧ (a : Int) + o > l1.length) := fun m hm => by omega
      generalize min o (l1.length - a) = m at *
      have hM := hM m rfl
      have hl3 := seg_len (szL l0 l1.length) a m (by rw [szL_len]; exact hm2)
      have hl1' := seg_len l1 a m hm2
      have hS3 : Kd.C (Kd.int .u8) wr (some ⟨g3, a, none⟩) (seg (szL l0 l1.length) a m).length (seg (szL l0 l1.length) a m) := by
        have := Kd.C_mid (lo := a) (hi := a + m) hC3 (by omega) (by rw [szL_len]; exact hm2) (by rw [szL_len]; exact hc3)
        rw [if_neg (by omega)] at this
        have e : (Addr.add ⟨g3, 0, none⟩ (a * 1)) = ⟨g3, a, none⟩ := by simp [Addr.add]; omega
        rw [Option.map_some] at this
        simp only [Kd.int, Kd.scalar] at this e ⊢
        rw [e] at this
        exact this
      have hS1 : Kd.C (Kd.int .u8) wr (some (ad1.add a)) (seg l1 a m).length (seg l1 a m) := by
        have := Kd.C_mid (lo := a) (hi := a + m) hC1 (by omega) hm2 hc1
        rw [if_neg (by omega), Option.map_some] at this
        simp only [Kd.int, Kd.scalar, Nat.mul_one] at this ⊢
        exact this
      have HS3 := Aside0.mk hS3
      have HS1 := Aside0.mk hS1
      have q0 : IntKind.i64.wrap (a : Int) = a := IntWalk.i64_in _ (by omega)
      have q1 : IntKind.i64.wrap ((a : Int) + o) = (a : Int) + o := IntWalk.i64_in _ (by omega)
      have q2 : (a : Int) ≤ (a : Int) + m := by omega
      have q3 : (a : Int) + m ≤ c3 := by omega
      have q4 : (a : Int) + m ≤ c1 := by omega
      have q5 : ¬ c3 = a := by omega
      have q6 : ¬ c1 = a := by omega
      have q7 : a + m - a = m := by omega
      have q8 : (a : Int) < l1.length := by omega
      clear hWr hC1 hC3 hS3 hS1 e3
      have hcv3 := fun nd => Kd.C_string (P := Try.prog) (c := c3 - a) Try.underlying25 Try.underlying5 Try.underlying9 (Kd.C_drewN HS3.out nd)
      have hcv1 := fun nd => Kd.C_string (P := Try.prog) (c := c1 - a) Try.underlying25 Try.underlying5 Try.underlying9 (Kd.C_drewN HS1.out nd)
      rw [hl3] at hcv3
      rw [hl1'] at hcv1
      have r1 : (a : Int) ≤ l1.length := by omega
      have r2 : (l1.length : Int) ≤ c1 := by omega
      have r3 : (l1.length : Int) ≤ c3 := by omega
      have HMO := Aside0.mk hM
      have hcase : (l1.length - a = m ∧ (a : Int) + o > l1.length) ∨ (m = o ∧ ¬ (a : Int) + o > l1.length) := by omega
      clear hM
      have HZN := Aside0.mk (show zeroB ((seg l1 a m).take 0) = true from rfl)
      have HZS := Aside0.mk (fun j (hj : j < m) => zeroB_snoc (seg l1 a m) j (by rw [hl1']; exact hj))
      have HZM := Aside0.mk (show (seg l1 a m).take m = seg l1 a m from List.take_of_length_le (by omega))
      by_cases hE : seg (szL l0 l1.length) a m = seg l1 a m
      · have HX := Aside0.mk hE
        rw [hE] at hcv3
        clear hE
        have hi2 := HI.out
        rcases hcase with ⟨r5, h9⟩ | ⟨hmo, h9⟩
        all_goals (
          try subst hmo
          go_wp2
          go_loopw [15, 16] (fun v15 v16 wx => v15 = .bool true ∧ v16 = .int .i64 0 ∧ wx = wr) (fun _ _ _ => 0)
          case atStart => exact ⟨rfl, rfl, rfl⟩
          case round =>
            obtain ⟨rfl, rfl, rfl⟩ := hrel
            go_wp2
            go_quiet (fail)
            go_wp2
            exact ⟨⟨i + 1, v, by omega, by go_num, ⟨by rw [HSTEP.out, if_pos HX.out, List.append_nil]; exact Kd.S_drewN HS.out _⟩, ⟨HN.out.drewN _⟩, ⟨blk_drewN BK11.out _⟩⟩, by simp [intOf]; omega⟩)
      · have HX := Aside0.mk hE
        have hNS : ((strOfNums (seg l1 a m)).toList == (strOfNums (seg (szL l0 l1.length) a m)).toList) = false := by
          rw [beq_eq_false_iff_ne]
          intro h
          rw [ByteArray.toList_eq, ByteArray.toList_eq] at h
          exact hE (str_inj (seg_mem HBY.out.1) (seg_mem HBY.out.2) (Go.WideShapes.bytes_inj h.symm))
        clear hE
        have hi2 := HI.out
        have HL1 := Aside0.mk hl1'
        have HVL := Aside0.mk (Kd.S_lt HS.out)
        have HLEN := Aside0.mk (show ((((btwL (szL l0 l1.length) l1 o i).map toR).length + 1) * 48 ≤ 140737488355328) by rw [List.length_map]; have := HBL.out; omega)
        rcases hcase with ⟨r5, h9⟩ | ⟨hmo, h9⟩
        all_goals (
          try subst hmo
          go_wp2
          go_loopw [15, 16] (fun v15 v16 wx => v15 = .bool true ∧ v16 = .int .i64 0 ∧ wx = wr) (fun _ _ _ => 0)
          case atStart => exact ⟨rfl, rfl, rfl⟩
          case round =>
            obtain ⟨rfl, rfl, rfl⟩ := hrel
            go_wp2
            go_quiet (fail)
            have HSq := Aside0.mk (Kd.S_drewN HS.out nq)
            have HNq := Aside0.mk (HN.out.drewN nq)
            have BKq := Aside0.mk (blk_drewN BK11.out nq)
            have HCq := Aside0.mk (Kd.C_drewN HS1.out nq)
            have HSZ := Aside0.mk (show (wr.drewN nq).heap.size = wr.heap.size by simp)
            clear hcv1 hcv3 q1 q2 q3 q4 q5 q6 q8 r2 r3 hl3
            generalize wr.drewN nq = W at *
            go_wp2
            have HB18 := Aside0.mk (blk_new W (.cells #[.int .i64 a, .int .i64 m, .bool true, .slice none 0 0] 65))
            try simp only [Nat.add_sub_cancel_left]
            go_loopw [19] (fun v19 wr => ∃ j : Nat, j ≤ m ∧ v19 = .int .i64 j ∧ Aside0 (wr.heap[W.heap.size]? = some (.cells #[.int .i64 a, .int .i64 m, .bool (zeroB ((seg l1 a m).take j)), .slice none 0 0] 65 (0, 0))) ∧ Aside0 (Below W.heap.size W wr)) (fun v19 _ => m - (intOf v19).toNat)
            case atStart => exact ⟨0, by omega, rfl, HB18, ⟨below_alloc (Below.refl _ _) _⟩⟩
            case round =>
              clear HB18
              obtain ⟨j, hj, rfl, HB18, HBW⟩ := hrel
              have hz2 : wr.cell? ⟨W.heap.size, 2, none⟩ = some (.bool (zeroB ((seg l1 a m).take j))) := (blk_cell HB18.out 2).trans rfl
              have hf2 : wr.frozen? ⟨W.heap.size, 2, none⟩ = false := blk_frozen HB18.out 2
              by_cases hjm : j < m
              · have hst := HZS.out j hjm
                obtain ⟨ad, e, hx⟩ := Kd.at_int (Kd.C_below HCq.out HBW.out) j (by omega) (by rw [HL1.out]; omega)
                injection e with e
                subst e
                simp only [Int.toNat_natCast] at hx
                have HST := Aside0.mk hst
                have HBS := fun b => Aside0.mk (blk_put HB18.out 2 (.bool b) rfl)
                have HBE := fun b => Aside0.mk (below_set (j := 2) (v := Value.bool b) HBW.out (Nat.le_refl _))
                clear hst
                generalize zeroB ((seg l1 a m).take j) = q at *
                generalize rd (seg l1 a m) (j : Int) = x at *
                cases q
                · go_wp2
                  exact ⟨⟨j + 1, by omega, by go_num, ⟨by have := (HBS false).out; rw [HST.out]; exact this⟩, HBE false⟩, by simp [intOf]; omega⟩
                · by_cases hx0 : x = 0
                  · subst hx0
                    go_wp2
                    exact ⟨⟨j + 1, by omega, by go_num, ⟨by have := (HBS true).out; rw [HST.out]; exact this⟩, HBE true⟩, by simp [intOf]; omega⟩
                  · have hx1 : (x == 0) = false := beq_eq_false_iff_ne.2 hx0
                    have HX0 := Aside0.mk hx0
                    clear hx0
                    go_wp2
                    exact ⟨⟨j + 1, by omega, by go_num, ⟨by have := (HBS false).out; rw [HST.out, decide_eq_false HX0.out]; exact this⟩, HBE false⟩, by simp [intOf]; omega⟩
              · have hjm2 : m = j := by omega
                subst hjm2
                rw [HZM.out] at hz2 HB18
                have hz : W.heap.size < wr.heap.size := blk_lt HB18.out
                have BKw := Aside0.mk (blk_below BKq.out HBW.out)
                have hu2 : wr.cell? ⟨w.heap.size + 1, 2, none⟩ = some v := (blk_cell BKw.out 2).trans rfl
                have hwW : w.heap.size + 1 < W.heap.size := by have := HNq.out.size; omega
                have hSW := Aside0.mk (Kd.S_below (Kd.S_mono (Kd.S_bound HSq.out) (ok' := fun k => w3.heap.size ≤ k ∧ k < W.heap.size) (fun _ hk => ⟨hk.2.1, hk.2.2.1⟩)) HBW.out)
                have hVL : ∀ k, v.ownBlock = some k → k < W.heap.size := Kd.S_lt HSq.out
                have hVB : ∀ k, v.ownBlock = some k → w3.heap.size ≤ k := Kd.S_base HSq.out
                have HVV := Aside0.mk (And.intro hVL hVB)
                clear hVL hVB
                have h33 : w3.heap.size ≤ W.heap.size := HNq.out.size
                have HNw := Aside0.mk (HNq.out.below_ HBW.out)
                have hRO : recOf (a : Int) (seg l1 a m) = ⟨a, m, zeroB (seg l1 a m), if zeroB (seg l1 a m) = true then [] else seg l1 a m⟩ := by unfold recOf; rw [HL1.out]
                have HRO := Aside0.mk hRO
                have hcm := Kd.C_below HCq.out HBW.out
                rw [HL1.out] at hcm
                have HCm := Aside0.mk hcm
                clear hcm
                clear hRO
                cases hq : zeroB (seg l1 a m)
                · have HQ := Aside0.mk hq
                  rw [hq] at hz2 HB18
                  clear hq
                  go_wp2_with (first | ((with_reducible refine gate_builtin (b := .append) (xs := #[.tmp 109, .tmp 110]) rfl ?_); at_builtin; go_must (refine Kd.R_append_rows (Kd.int .u8) (w0 := wr) wr.heap.size rfl (.tmp 109) (.tmp 110) 25 5 (.int .u8 0) 1 rfl Try.underlying25 info5 rfl (by decide) (by omega) _ [] (seg l1 a m) _ _ _ (fun _ => True) (fun _ => False) rfl rfl (R_empty wr wr.heap.size (Nat.le_refl _)) (Kd.C_alloc HCm.out _) (fun _ _ h => h) (fun _ h => h.elim) (fun _ _ => trivial) (below_alloc (Below.refl _ wr) _) (by simp) (by (simp; omega)) ?_); intro v3 w6 ho hb hg hat; clear hg hat; have HO3 := Aside0.mk ho; have HB6 := Aside0.mk hb; have hB18 := blk_below HB18.out hb; have hBKw := blk_below BKw.out hb; have hSWx := Aside0.mk (Kd.S_below hSW.out hb); have HN6 := Aside0.mk (HNw.out.below_ hb); have hz6 := hb.size; clear ho hb; obtain ⟨A6, c6, rfl, -⟩ := Kd.R_reads HO3.out; simp only [List.nil_append] at HO3; rw [HL1.out] at HO3; have hf6 : w6.frozen? ⟨W.heap.size, 3, none⟩ = false := blk_frozen hB18 3; have hg0 : w6.cell? ⟨W.heap.size, 0, none⟩ = some (.int .i64 a) := (blk_cell hB18 0).trans rfl; have hg1 : w6.cell? ⟨W.heap.size, 1, none⟩ = some (.int .i64 m) := (blk_cell hB18 1).trans rfl; have hg2 : w6.cell? ⟨W.heap.size, 2, none⟩ = some (.bool false) := (blk_cell hB18 2).trans rfl; have hg3 : w6.cell? ⟨W.heap.size, 3, none⟩ = some (.slice none 0 0) := (blk_cell hB18 3).trans rfl; have hg4 : w6.cell? ⟨w.heap.size + 1, 2, none⟩ = some v := (blk_cell hBKw 2).trans rfl; have HBK6 := Aside0.mk hB18; have HBKw6 := Aside0.mk hBKw; clear hB18 hBKw) | ((with_reducible refine gate_builtin (b := .append) (xs := #[.tmp 114, .tmp 116]) rfl ?_); at_builtin; go_must (refine Kd.S_append k65 (w0 := w6.setCell ⟨W.heap.size, 3, none⟩ (.slice A6 m c6)) w3.heap.size rfl (.tmp 114) (.tmp 116) 22 65 (.agg #[.int .i64 0, .int .i64 0, .bool false, .slice none 0 0]) 48 rfl Try.underlying22 info65 rfl (by decide) (by omega) v _ ⟨a, m, false, seg l1 a m⟩ [.int .i64 a, .int .i64 m, .bool false, .slice A6 m c6] (fun _ => True) (fun k => wr.heap.size ≤ k) rfl (by rw [sz_set]; rfl) (k65_mkM _ _ _ (⟨a, m, false, seg l1 a m⟩ : S65) (Kd.R_far (Kd.R_lower (Kd.R_mono (Kd.R_bound HO3.out) (fun k hk => hk.2.1)) (Nat.le_trans h33 (Nat.le_of_lt hz))) (fun k hk => Nat.ne_of_gt (Nat.lt_of_lt_of_le hz hk)) _)) (fun k hk => ⟨trivial, fun e => Nat.lt_irrefl _ (Nat.lt_of_lt_of_le (Nat.lt_trans (HVV.out.1 k e.symm) hz) hk)⟩) (fun _ _ => trivial) (Kd.S_mono (Kd.S_far hSWx.out (p := ⟨W.heap.size, 3, none⟩) (fun k hk => Nat.ne_of_lt hk.2) _) (fun k hk => ⟨trivial, Nat.not_le.2 (Nat.lt_trans hk.2 hz)⟩)) (Below.refl _ _) (by simp; omega) HLEN.out ?_); intro v7 w7 hs7 hb7 hg7 hat7; obtain ⟨A7, c7, rfl⟩ := Kd.S_slice hs7; simp only [List.length_append, List.length_map, List.length_singleton] at hs7 hg7; have HS7 := Aside0.mk hs7; have HG7 := Aside0.mk hg7; have hb7' := blk_grown (blk_far HBKw6.out (p := ⟨W.heap.size, 3, none⟩) (by simp; omega) (.slice A6 m c6)) hg7 (fun e => by have := HVV.out.2 _ e.symm; omega); have hv7 : w7.cell? ⟨w.heap.size + 1, 2, none⟩ = some v := (blk_cell hb7' 2).trans rfl; have hvf7 : w7.frozen? ⟨w.heap.size + 1, 2, none⟩ = false := blk_frozen hb7' 2; have HBK7 := Aside0.mk hb7'; clear hs7 hb7 hg7 hat7 hb7'))
                  refine ⟨⟨i + 1, _, by omega, by go_num, ⟨?_⟩, ⟨?_⟩, ⟨blk_put HBK7.out 2 _ rfl⟩⟩, by simp [intOf]; omega⟩
                  · rw [HSTEP.out, if_neg HX.out, List.map_append, HRO.out, HQ.out]
                    exact Kd.S_mono (Kd.S_far (p := ⟨w.heap.size + 1, 2, none⟩) (Kd.S_mono (Kd.S_bound HS7.out) (ok' := fun k => w3.heap.size ≤ k) (fun _ hk => hk.2.1)) (fun k hk => by show k ≠ w.heap.size + 1; omega) _) (fun _ _ => trivial)
                  · exact ((HN6.out.setCell (p := ⟨W.heap.size, 3, none⟩) (.inr h33) (.slice A6 m c6)).then_ (Only.of_grown HG7.out (S := fun j => v.ownBlock = some j) (fun k hk => hk)) (fun j hj => Or.inr (HVV.out.2 j hj))).setCell (.inl rfl) _
                · have HQ := Aside0.mk hq
                  rw [hq] at hz2 HB18
                  clear hq
                  have hg0 : wr.cell? ⟨W.heap.size, 0, none⟩ = some (.int .i64 a) := (blk_cell HB18.out 0).trans rfl
                  have hg1 : wr.cell? ⟨W.heap.size, 1, none⟩ = some (.int .i64 m) := (blk_cell HB18.out 1).trans rfl
                  have hg3 : wr.cell? ⟨W.heap.size, 3, none⟩ = some (.slice none 0 0) := (blk_cell HB18.out 3).trans rfl
                  go_wp2_with (((with_reducible refine gate_builtin (b := .append) (xs := #[.tmp 114, .tmp 116]) rfl ?_); at_builtin; go_must (refine Kd.S_append k65 (w0 := wr) w3.heap.size rfl (.tmp 114) (.tmp 116) 22 65 (.agg #[.int .i64 0, .int .i64 0, .bool false, .slice none 0 0]) 48 rfl Try.underlying22 info65 rfl (by decide) (by omega) v _ ⟨a, m, true, []⟩ [.int .i64 a, .int .i64 m, .bool true, .slice none 0 0] (fun _ => True) (fun _ => False) rfl rfl (k65_mkM _ _ _ (⟨a, m, true, []⟩ : S65) (Kd.R_nil _ _ _ _ _)) (fun _ h => h.elim) (fun _ _ => trivial) (Kd.S_mono hSW.out (fun _ _ => ⟨trivial, id⟩)) (Below.refl _ _) (by omega) HLEN.out ?_); intro v7 w7 hs7 hb7 hg7 hat7; obtain ⟨A7, c7, rfl⟩ := Kd.S_slice hs7; simp only [List.length_append, List.length_map, List.length_singleton] at hs7 hg7; have HS7 := Aside0.mk hs7; have HG7 := Aside0.mk hg7; have hb7' := blk_grown BKw.out hg7 (fun e => by have := HVV.out.2 _ e.symm; omega); have hv7 : w7.cell? ⟨w.heap.size + 1, 2, none⟩ = some v := (blk_cell hb7' 2).trans rfl; have hvf7 : w7.frozen? ⟨w.heap.size + 1, 2, none⟩ = false := blk_frozen hb7' 2; have HBK7 := Aside0.mk hb7'; clear hs7 hb7 hg7 hat7 hb7'))
                  refine ⟨⟨i + 1, _, by omega, by go_num, ⟨?_⟩, ⟨?_⟩, ⟨blk_put HBK7.out 2 _ rfl⟩⟩, by simp [intOf]; omega⟩
                  · rw [HSTEP.out, if_neg HX.out, List.map_append, HRO.out, HQ.out]
                    exact Kd.S_mono (Kd.S_far (p := ⟨w.heap.size + 1, 2, none⟩) (Kd.S_mono (Kd.S_bound HS7.out) (ok' := fun k => w3.heap.size ≤ k) (fun _ hk => hk.2.1)) (fun k hk => by show k ≠ w.heap.size + 1; omega) _) (fun _ _ => trivial)
                  · exact (HNw.out.then_ (Only.of_grown HG7.out (S := fun j => v.ownBlock = some j) (fun k hk => hk)) (fun j hj => Or.inr (HVV.out.2 j hj))).setCell (.inl rfl) _)
    · obtain rfl : i = pcN l1.length o := by omega
      have h0 : ¬ ((pcN l1.length o : Int) * o < l1.length) := by
        have := HO.out
        have h3 : l1.length ≤ pcN l1.length o * o := by unfold pcN; rcases this with rfl | rfl | rfl | rfl | rfl <;> omega
        rw [← Int.natCast_mul]
        omega
      have BK := Aside0.mk (HN.out.same_block BK10.out (by omega))
      have hz0 : wr.cell? ⟨w.heap.size + 1, 0, none⟩ = some (.int .i64 l0.length) := (blk_cell BK11.out 0).trans rfl
      have hz1 : wr.cell? ⟨w.heap.size + 1, 1, none⟩ = some (.int .i64 l1.length) := (blk_cell BK11.out 1).trans rfl
      have hz2 : wr.cell? ⟨w.heap.size + 1, 2, none⟩ = some v := (blk_cell BK11.out 2).trans rfl
      have hy0 : wr.cell? ⟨w.heap.size, 0, none⟩ = some (.int .i64 0) := (blk_cell BK.out 0).trans rfl
      have hy1 : wr.cell? ⟨w.heap.size, 1, none⟩ = some (.int .i64 0) := (blk_cell BK.out 1).trans rfl
      have hy2 : wr.cell? ⟨w.heap.size, 2, none⟩ = some (.slice none 0 0) := (blk_cell BK.out 2).trans rfl
      have hf0 : wr.frozen? ⟨w.heap.size, 0, none⟩ = false := blk_frozen BK.out 0
      have hf1 : wr.frozen? ⟨w.heap.size, 1, none⟩ = false := blk_frozen BK.out 1
      have hf2 : wr.frozen? ⟨w.heap.size, 2, none⟩ = false := blk_frozen BK.out 2
      have hwr : IntKind.i64.wrap ((pcN l1.length o : Int) * o) = (pcN l1.length o : Int) * o := by
        have := HO.out
        have h3 : pcN l1.length o * o ≤ 1000000 := by unfold pcN; rcases this with rfl | rfl | rfl | rfl | rfl <;> omega
        rw [← Int.natCast_mul]
        exact IntWalk.i64_in _ (by omega)
      obtain ⟨A, c, rfl⟩ := Kd.S_slice HS.out
      rw [List.length_map] at HS hz2 BK11
      go_wp2
      refine bodyPost_ret (results_cell_row rfl _ _ w.heap.size 24 #[.int .i64 l0.length, .int .i64 l1.length, .slice A (btwL (szL l0 l1.length) l1 o (pcN l1.length o)).length c] (0, 0) _ rfl (blk_put (blk_put (blk_put BK.out 0 _ rfl) 1 _ rfl) 2 _ rfl) Try.underlying24 rfl (by kernel_rfl)) rfl ?_
      refine ⟨_, rfl, ?_, below_set (below_set (below_set ?_ (Nat.le_refl _)) (Nat.le_refl _)) (Nat.le_refl _)⟩
      · have h1 := Kd.S_mono (Kd.S_bound HS.out) (ok' := fun j => w3.heap.size ≤ j) (fun _ hk => hk.2.1)
        exact Kd.S_mono (Kd.S_lower (Kd.S_far (Kd.S_far (Kd.S_far h1 (fun k hk => by simp; omega) _) (fun k hk => by simp; omega) _) (fun k hk => by simp; omega) _) (by omega)) (fun _ _ => trivial)
      · exact HB3.out.trans (HN.out.below (B := w.heap.size) (fun j hj => by omega) (by omega))

/-! ### laminalaw17_plain: function 23 -/
def laminalaw17_plain.l0 : Nat → List (S61) → Int → Int → Int → Int → List (S65) → Option (Int × Int × (List (S65)))
  | 0, _, _, _, _, _, _ => none
  | k + 1, x12, x13, x14, x146000, x146001, x146002 => if x14 < x13 then (if 0 ≤ x14 then (if x14 < (x12.length : Int) then (if x146002.length < 2932031007402 then (laminalaw17_plain.l0 k x12 x13 (wrap64 (x14 + 1)) x146000 x146001 (x146002 ++ [(⟨(rd_T61 x12 x14).f0, (rd_T61 x12 x14).f1, (rd_T61 x12 x14).f2, (rd_T61 x12 x14).f3⟩ : S65)])) else (none)) else (none)) else (none)) else (some (x146000, x146001, x146002))
def laminalaw17_plain.f (k : Nat) (a0_0 : Int) (a0_1 : Int) (l0_2 : List (S61)) : Option (Int × Int × (List (S65))) := laminalaw17_plain.l0 k l0_2 (l0_2.length : Int) 0 a0_0 a0_1 ([] : List (S65))
theorem laminalaw17_plain.mono_l : ∀ k, (∀ y0 y1 y2 y3 y4 y5, LeO (laminalaw17_plain.l0 k y0 y1 y2 y3 y4 y5) (laminalaw17_plain.l0 (k + 1) y0 y1 y2 y3 y4 y5))
  | 0 => fun _ _ _ _ _ _ r h => by simp [laminalaw17_plain.l0] at h
  | k + 1 => by
    have ih0 := laminalaw17_plain.mono_l k
    · intro y0 y1 y2 y3 y4 y5
      unfold laminalaw17_plain.l0
      repeat' first
      | (with_reducible exact ih0 _ _ _ _ _ _)
      | (with_reducible exact LeO.refl _)
      | (with_reducible exact LeO.none _)
      | (with_reducible refine LeO.ite ?_ ?_)
      | (with_reducible refine LeO.bind ?_ (fun _ => ?_))
      | exact ih0 _ _ _ _ _ _
      | exact LeO.none _
      | refine LeO.ite ?_ ?_
      | refine LeO.bind ?_ (fun _ => ?_)
theorem laminalaw17_plain.mono : ∀ a0 a1 a2 k, LeO (laminalaw17_plain.f k a0 a1 a2) (laminalaw17_plain.f (k + 1) a0 a1 a2) := by
  intro a0 a1 a2 k
  have ih0 := laminalaw17_plain.mono_l k
  unfold laminalaw17_plain.f
  repeat' first
      | (with_reducible exact ih0 _ _ _ _ _ _)
      | (with_reducible exact LeO.refl _)
      | (with_reducible exact LeO.none _)
      | (with_reducible refine LeO.ite ?_ ?_)
      | (with_reducible refine LeO.bind ?_ (fun _ => ?_))
      | exact ih0 _ _ _ _ _ _
      | exact LeO.none _
      | refine LeO.ite ?_ ?_
      | refine LeO.bind ?_ (fun _ => ?_)
set_option maxHeartbeats 8000000 in
set_option maxRecDepth 100000 in
theorem laminalaw17_plain.calls (k : Nat) (a0_0 : Int) (a0_1 : Int) (P0_2_ : Nat → Prop) (A0_2 : Option Addr) (c0_2 : Nat) (l0_2 : List (S61)) (r1 : Int) (r2 : Int) (r3 : List (S65)) (w : World) (hs0_2 : Kd.V k61 61 w w.heap.size (fun k_ => P0_2_ k_) (.slice A0_2 l0_2.length c0_2) l0_2) (h : laminalaw17_plain.f k a0_0 a0_1 l0_2 = some (r1, r2, r3)) :
    Calls Try.prog 23 #[.agg #[.int .i64 a0_0, .int .i64 a0_1, .slice A0_2 l0_2.length c0_2]] w fun e w' => ∃ v2_ : Value, e = .returned (.agg #[.int .i64 r1, .int .i64 r2, v2_]) ∧ Kd.N k65 65 w' w.heap.size (fun k_ => (P0_2_ k_ ∨ w.heap.size ≤ k_)) v2_ r3 ∧ Below w.heap.size w w' := by
  have hu35 := Try.underlying35
  have hu24 := Try.underlying24
  have hu61 := Try.underlying61
  have hu65 := Try.underlying65
  have HO0_2 := Aside0.mk (show Kd.V k61 61 w w.heap.size (fun k_ => (P0_2_ k_ ∨ w.heap.size ≤ k_)) (.slice A0_2 l0_2.length c0_2) l0_2 from Kd.V_mono hs0_2 (fun k_ hk => .inl hk))
  have HB := Aside0.mk (Below.refl w.heap.size w)
  have H : (laminalaw17_plain.l0 k l0_2 (l0_2.length : Int) 0 a0_0 a0_1 ([] : List (S65))) = some (r1, r2, r3) := h
  clear h
  have H' := Aside0.mk H
  clear H
  go_enter Try.func23, Try.ntmps23
  go_wp2_with (first | ((with_reducible refine gate_dst (N := 1) rfl ?_); refine box_event ?hg (N := 1) ?hd (cs := #[.int .i64 a0_0, .int .i64 a0_1, .slice A0_2 l0_2.length c0_2]) (t := 35) ?hr ?_; (case hd => rfl); (case hg => rfl); (case hr => first | (go_simp; done) | (go_simp; rfl)); intro gb143 hg w2 hbox hb; have n0_ := Aside0.mk (Kd.V_below (Kd.V_elderB (by (with_reducible repeat (first | apply Kd.V_alloc | apply Kd.V_drewN | apply Kd.V_drew)); exact HO0_2.out) gb143 (Nat.le_of_eq hg.symm)) hb); have n1_ := Aside0.mk (below_step (by repeat (first | (with_reducible first | exact HB.out | apply below_alloc | apply pw_below_drewN | apply below_drew1) | exact HB.out)) hb); have n2_ := Aside0.mk (hbox); have n3_ := Aside0.mk ((by rw [hg]; exact (below_size (by repeat (first | (with_reducible first | exact HB.out | apply below_alloc | apply pw_below_drewN | apply below_drew1) | exact HB.out))) : w.heap.size ≤ gb143)); have n4_ := Aside0.mk ((by rw [hg]; exact (below_size (by repeat (first | (with_reducible first | exact HB.out | apply below_alloc | apply pw_below_drewN | apply below_drew1) | exact HB.out))) : w.heap.size ≤ gb143)); clear HO0_2; clear HB; have HO0_2 := n0_; have HB := n1_; have BK143 := n2_; have GW143 := n3_; have GE143 := n4_; clear n0_ n1_ n2_ n3_ n4_; clear hb hbox hg) | ((with_reducible refine gate_dst (N := 2) rfl ?_); refine box_event ?hg (N := 2) ?hd (cs := #[.int .i64 0, .int .i64 0, .slice none 0 0]) (t := 24) ?hr ?_; (case hd => rfl); (case hg => rfl); (case hr => first | (go_simp; done) | (go_simp; rfl)); intro gb144 hg w3 hbox hb; have n0_ := Aside0.mk (Kd.V_below (Kd.V_elderB (by (with_reducible repeat (first | apply Kd.V_alloc | apply Kd.V_drewN | apply Kd.V_drew)); exact HO0_2.out) gb144 (Nat.le_of_eq hg.symm)) hb); have n1_ := Aside0.mk (blk_below (g := gb143) (o := .cells #[.int .i64 a0_0, .int .i64 a0_1, .slice A0_2 l0_2.length c0_2] 35 (0, 0)) (by (with_reducible repeat (first | refine blk_drewN ?_ _ | refine blk_drew ?_ | refine blk_alloc ?_ _)); exact BK143.out) hb); have n2_ := Aside0.mk (below_step (by repeat (first | (with_reducible first | exact HB.out | apply below_alloc | apply pw_below_drewN | apply below_drew1 | refine below_set ?_ GE143.out) | exact HB.out)) hb); have n3_ := Aside0.mk (hbox); have n4_ := Aside0.mk ((by rw [hg]; exact (below_size (by repeat (first | (with_reducible first | exact HB.out | apply below_alloc | apply pw_below_drewN | apply below_drew1 | refine below_set ?_ GE143.out) | exact HB.out))) : w.heap.size ≤ gb144)); have n5_ := Aside0.mk ((by rw [hg]; exact (below_size (by repeat (first | (with_reducible first | exact HB.out | apply below_alloc | apply pw_below_drewN | apply below_drew1 | refine below_set ?_ GE143.out) | exact HB.out))) : w.heap.size ≤ gb144)); have n6_ := Aside0.mk ((by rw [hg]; exact Nat.ne_of_lt (blk_lt (g := gb143) (o := .cells #[.int .i64 a0_0, .int .i64 a0_1, .slice A0_2 l0_2.length c0_2] 35 (0, 0)) (by (with_reducible repeat (first | refine blk_drewN ?_ _ | refine blk_drew ?_ | refine blk_alloc ?_ _)); exact BK143.out)) : gb143 ≠ gb144)); have n7_ := Aside0.mk ((by rw [hg]; exact Nat.ne_of_gt (blk_lt (g := gb143) (o := .cells #[.int .i64 a0_0, .int .i64 a0_1, .slice A0_2 l0_2.length c0_2] 35 (0, 0)) (by (with_reducible repeat (first | refine blk_drewN ?_ _ | refine blk_drew ?_ | refine blk_alloc ?_ _)); exact BK143.out)) : gb144 ≠ gb143)); clear HO0_2; clear BK143; clear HB; have HO0_2 := n0_; have BK143 := n1_; have HB := n2_; have BK144 := n3_; have GW144 := n4_; have GE144 := n5_; have NB143_144 := n6_; have NB144_143 := n7_; clear n0_ n1_ n2_ n3_ n4_ n5_ n6_ n7_; clear hb hbox hg; have hnb4 := NB143_144.out; have hnc4 := NB144_143.out; have hcz5_0 : w3.cell? ⟨gb143, 0, none⟩ = some (.int .i64 a0_0) := (blk_cell BK143.out 0).trans rfl; have hcz5_1 : w3.cell? ⟨gb143, 1, none⟩ = some (.int .i64 a0_1) := (blk_cell BK143.out 1).trans rfl; have hcz5_2 : w3.cell? ⟨gb143, 2, none⟩ = some (.slice A0_2 l0_2.length c0_2) := (blk_cell BK143.out 2).trans rfl; have hfz5_0 := blk_frozen BK143.out 0; have hfz5_1 := blk_frozen BK143.out 1; have hfz5_2 := blk_frozen BK143.out 2) | ((with_reducible refine gate_dst (N := 3) rfl ?_); refine box_event ?hg (N := 3) ?hd (cs := #[.int .i64 0, .int .i64 0, .slice none 0 0]) (t := 24) ?hr ?_; (case hd => rfl); (case hg => rfl); (case hr => first | (go_simp; done) | (go_simp; rfl)); intro gb145 hg w6 hbox hb; have n0_ := Aside0.mk (Kd.V_below (Kd.V_elderB (by (with_reducible repeat (first | apply Kd.V_alloc | apply Kd.V_drewN | apply Kd.V_drew)); exact HO0_2.out) gb145 (Nat.le_of_eq hg.symm)) hb); have n1_ := Aside0.mk (blk_below (g := gb143) (o := .cells #[.int .i64 a0_0, .int .i64 a0_1, .slice A0_2 l0_2.length c0_2] 35 (0, 0)) (by (with_reducible repeat (first | refine blk_drewN ?_ _ | refine blk_drew ?_ | refine blk_alloc ?_ _)); exact BK143.out) hb); have n2_ := Aside0.mk (blk_below (g := gb144) (o := .cells #[.int .i64 0, .int .i64 0, .slice none 0 0] 24 (0, 0)) (by (with_reducible repeat (first | refine blk_drewN ?_ _ | refine blk_drew ?_ | refine blk_alloc ?_ _)); exact BK144.out) hb); have n3_ := Aside0.mk (below_step (by repeat (first | (with_reducible first | exact HB.out | apply below_alloc | apply pw_below_drewN | apply below_drew1 | refine below_set ?_ GE143.out | refine below_set ?_ GE144.out) | exact HB.out)) hb); have n4_ := Aside0.mk (hbox); have n5_ := Aside0.mk ((by rw [hg]; exact (below_size (by repeat (first | (with_reducible first | exact HB.out | apply below_alloc | apply pw_below_drewN | apply below_drew1 | refine below_set ?_ GE143.out | refine below_set ?_ GE144.out) | exact HB.out))) : w.heap.size ≤ gb145)); have n6_ := Aside0.mk ((by rw [hg]; exact (below_size (by repeat (first | (with_reducible first | exact HB.out | apply below_alloc | apply pw_below_drewN | apply below_drew1 | refine below_set ?_ GE143.out | refine below_set ?_ GE144.out) | exact HB.out))) : w.heap.size ≤ gb145)); have n7_ := Aside0.mk ((by rw [hg]; exact Nat.ne_of_lt (blk_lt (g := gb143) (o := .cells #[.int .i64 a0_0, .int .i64 a0_1, .slice A0_2 l0_2.length c0_2] 35 (0, 0)) (by (with_reducible repeat (first | refine blk_drewN ?_ _ | refine blk_drew ?_ | refine blk_alloc ?_ _)); exact BK143.out)) : gb143 ≠ gb145)); have n8_ := Aside0.mk ((by rw [hg]; exact Nat.ne_of_gt (blk_lt (g := gb143) (o := .cells #[.int .i64 a0_0, .int .i64 a0_1, .slice A0_2 l0_2.length c0_2] 35 (0, 0)) (by (with_reducible repeat (first | refine blk_drewN ?_ _ | refine blk_drew ?_ | refine blk_alloc ?_ _)); exact BK143.out)) : gb145 ≠ gb143)); have n9_ := Aside0.mk ((by rw [hg]; exact Nat.ne_of_lt (blk_lt (g := gb144) (o := .cells #[.int .i64 0, .int .i64 0, .slice none 0 0] 24 (0, 0)) (by (with_reducible repeat (first | refine blk_drewN ?_ _ | refine blk_drew ?_ | refine blk_alloc ?_ _)); exact BK144.out)) : gb144 ≠ gb145)); have n10_ := Aside0.mk ((by rw [hg]; exact Nat.ne_of_gt (blk_lt (g := gb144) (o := .cells #[.int .i64 0, .int .i64 0, .slice none 0 0] 24 (0, 0)) (by (with_reducible repeat (first | refine blk_drewN ?_ _ | refine blk_drew ?_ | refine blk_alloc ?_ _)); exact BK144.out)) : gb145 ≠ gb144)); clear HO0_2; clear BK143; clear BK144; clear HB; have HO0_2 := n0_; have BK143 := n1_; have BK144 := n2_; have HB := n3_; have BK145 := n4_; have GW145 := n5_; have GE145 := n6_; have NB143_145 := n7_; have NB145_143 := n8_; have NB144_145 := n9_; have NB145_144 := n10_; clear n0_ n1_ n2_ n3_ n4_ n5_ n6_ n7_ n8_ n9_ n10_; clear hb hbox hg; have hnb7 := NB145_143.out; have hnc7 := NB143_145.out; have hnb8 := NB145_144.out; have hnc8 := NB144_145.out; have hcz9_0 : w6.cell? ⟨gb145, 0, none⟩ = some (.int .i64 0) := (blk_cell BK145.out 0).trans rfl; have hcz9_1 : w6.cell? ⟨gb145, 1, none⟩ = some (.int .i64 0) := (blk_cell BK145.out 1).trans rfl; have hcz9_2 : w6.cell? ⟨gb145, 2, none⟩ = some (.slice none 0 0) := (blk_cell BK145.out 2).trans rfl; have hfz9_0 := blk_frozen BK145.out 0; have hfz9_1 := blk_frozen BK145.out 1; have hfz9_2 := blk_frozen BK145.out 2; have hcz10_0 : w6.cell? ⟨gb143, 0, none⟩ = some (.int .i64 a0_0) := (blk_cell BK143.out 0).trans rfl; have hcz10_1 : w6.cell? ⟨gb143, 1, none⟩ = some (.int .i64 a0_1) := (blk_cell BK143.out 1).trans rfl; have hcz10_2 : w6.cell? ⟨gb143, 2, none⟩ = some (.slice A0_2 l0_2.length c0_2) := (blk_cell BK143.out 2).trans rfl; have hfz10_0 := blk_frozen BK143.out 0; have hfz10_1 := blk_frozen BK143.out 1; have hfz10_2 := blk_frozen BK143.out 2))
  go_loopg [14] k (fun kq v14 w' => ∃ (x14_1 : Int) (x146002_1 : List (S65)) (u146002 : Value), v14 = .int .i64 x14_1 ∧ Aside0 (laminalaw17_plain.l0 kq l0_2 (l0_2.length : Int) x14_1 a0_0 a0_1 x146002_1 = some (r1, r2, r3)) ∧ Aside0 (kq ≤ k) ∧ Aside0 (Kd.V k61 61 w' w.heap.size (fun k_ => (P0_2_ k_ ∨ w.heap.size ≤ k_) ∧ some k_ ≠ (u146002 : Value).ownBlock ∧ k_ ≠ gb143 ∧ k_ ≠ gb144 ∧ k_ ≠ gb145) (.slice A0_2 l0_2.length c0_2) l0_2) ∧ Aside0 (Kd.V k61 61 w' w.heap.size (fun k_ => (P0_2_ k_ ∨ w.heap.size ≤ k_) ∧ some k_ ≠ (u146002 : Value).ownBlock ∧ k_ ≠ gb143 ∧ k_ ≠ gb144 ∧ k_ ≠ gb145) (.slice A0_2 l0_2.length c0_2) l0_2) ∧ Aside0 (Kd.N k65 65 w' w.heap.size (fun k_ => (P0_2_ k_ ∨ w.heap.size ≤ k_) ∧ k_ ≠ gb143 ∧ k_ ≠ gb144 ∧ k_ ≠ gb145) u146002 x146002_1) ∧ Aside0 (w'.heap[gb143]? = some (.cells #[.int .i64 a0_0, .int .i64 a0_1, (.slice A0_2 l0_2.length c0_2)] 35 (0, 0))) ∧ Aside0 (w'.heap[gb144]? = some (.cells #[.int .i64 0, .int .i64 0, (.slice none 0 0)] 24 (0, 0))) ∧ Aside0 (w'.heap[gb145]? = some (.cells #[.int .i64 a0_0, .int .i64 a0_1, u146002] 24 (0, 0))) ∧ Aside0 (Below w.heap.size w w'))
  case atStart => exact ⟨(0), (([] : List (S65))), (.slice none 0 0), (by first | rfl | (simp; done) | (simp [*]; done)), H', ⟨Nat.le_refl _⟩, ⟨by (with_reducible repeat (first | apply Kd.V_alloc | apply Kd.V_drewN | apply Kd.V_drew)); exact Kd.V_mono (Kd.V_far (p := ⟨gb145, 2, none⟩) (Kd.V_far (p := ⟨gb145, 1, none⟩) (Kd.V_far (p := ⟨gb145, 0, none⟩) (Kd.V_mono HO0_2.out (fun k_ hk => (⟨hk, hk.2⟩ : _ ∧ k_ ≠ gb145))) (fun _ hk => hk.2) (.int .i64 a0_0)) (fun _ hk => hk.2) (.int .i64 a0_1)) (fun _ hk => hk.2) (.slice none 0 0)) (fun _ hk => ⟨hk.1.1.1.1, ⟨(by simp [Value.ownBlock]), ⟨hk.1.1.1.2, ⟨hk.1.1.2, hk.1.2⟩⟩⟩⟩)⟩, ⟨by (with_reducible repeat (first | apply Kd.V_alloc | apply Kd.V_drewN | apply Kd.V_drew)); exact Kd.V_mono (Kd.V_far (p := ⟨gb145, 2, none⟩) (Kd.V_far (p := ⟨gb145, 1, none⟩) (Kd.V_far (p := ⟨gb145, 0, none⟩) (Kd.V_mono HO0_2.out (fun k_ hk => (⟨hk, hk.2⟩ : _ ∧ k_ ≠ gb145))) (fun _ hk => hk.2) (.int .i64 a0_0)) (fun _ hk => hk.2) (.int .i64 a0_1)) (fun _ hk => hk.2) (.slice none 0 0)) (fun _ hk => ⟨hk.1.1.1.1, ⟨(by simp [Value.ownBlock]), ⟨hk.1.1.1.2, ⟨hk.1.1.2, hk.1.2⟩⟩⟩⟩)⟩, ⟨by first | exact Kd.S_nil _ _ _ _ _ | exact Kd.N_nil _ _ _ _ _ | exact Kd.V_nil _ _ _ _ _ | exact Kd.Q_nil _ _ _ _ _ | exact Kd.R_nil _ _ _ _ _⟩, ⟨by (with_reducible repeat (first | refine blk_drewN ?_ _ | refine blk_drew ?_ | refine blk_alloc ?_ _)); refine blk_far ?_ NB143_145.out _; (with_reducible repeat (first | refine blk_drewN ?_ _ | refine blk_drew ?_ | refine blk_alloc ?_ _)); refine blk_far ?_ NB143_145.out _; (with_reducible repeat (first | refine blk_drewN ?_ _ | refine blk_drew ?_ | refine blk_alloc ?_ _)); refine blk_far ?_ NB143_145.out _; (with_reducible repeat (first | refine blk_drewN ?_ _ | refine blk_drew ?_ | refine blk_alloc ?_ _)); exact BK143.out⟩, ⟨by (with_reducible repeat (first | refine blk_drewN ?_ _ | refine blk_drew ?_ | refine blk_alloc ?_ _)); refine blk_far ?_ NB144_145.out _; (with_reducible repeat (first | refine blk_drewN ?_ _ | refine blk_drew ?_ | refine blk_alloc ?_ _)); refine blk_far ?_ NB144_145.out _; (with_reducible repeat (first | refine blk_drewN ?_ _ | refine blk_drew ?_ | refine blk_alloc ?_ _)); refine blk_far ?_ NB144_145.out _; (with_reducible repeat (first | refine blk_drewN ?_ _ | refine blk_drew ?_ | refine blk_alloc ?_ _)); exact BK144.out⟩, ⟨by (with_reducible repeat (first | refine blk_drewN ?_ _ | refine blk_drew ?_ | refine blk_alloc ?_ _)); refine blk_put (cs := #[.int .i64 a0_0, .int .i64 a0_1, .slice none 0 0]) ?_ 2 _ rfl; (with_reducible repeat (first | refine blk_drewN ?_ _ | refine blk_drew ?_ | refine blk_alloc ?_ _)); refine blk_put (cs := #[.int .i64 a0_0, .int .i64 0, .slice none 0 0]) ?_ 1 _ rfl; (with_reducible repeat (first | refine blk_drewN ?_ _ | refine blk_drew ?_ | refine blk_alloc ?_ _)); refine blk_put (cs := #[.int .i64 0, .int .i64 0, .slice none 0 0]) ?_ 0 _ rfl; (with_reducible repeat (first | refine blk_drewN ?_ _ | refine blk_drew ?_ | refine blk_alloc ?_ _)); exact BK145.out⟩, ⟨by repeat (first | (with_reducible first | exact HB.out | apply below_alloc | apply pw_below_drewN | apply below_drew1 | refine below_set ?_ GE143.out | refine below_set ?_ GE144.out | refine below_set ?_ GE145.out) | exact HB.out)⟩⟩
  case round =>
    clear H'
    try clear c2
    try clear p2
    try clear c4
    try clear c7
    try clear c8
    try clear hcz10_0
    try clear hcz10_1
    try clear hcz10_2
    try clear hcz5_0
    try clear hcz5_1
    try clear hcz5_2
    try clear hcz9_0
    try clear hcz9_1
    try clear hcz9_2
    try clear hfz10_0
    try clear hfz10_1
    try clear hfz10_2
    try clear hfz5_0
    try clear hfz5_1
    try clear hfz5_2
    try clear hfz9_0
    try clear hfz9_1
    try clear hfz9_2
    obtain ⟨x14_1, x146002_1, u146002, rfl, HA, HK1, HO_12, HO_144002, HO_146002, BK143, BK144, BK145, HB⟩ := hrel
    cases gk with
    | zero => exact absurd HA.out (by simp [laminalaw17_plain.l0])
    | succ k1 =>
      have H := HA.out
      clear HA
      simp only [laminalaw17_plain.l0] at H
      by_cases c11 : x14_1 < (l0_2.length : Int)
      · rw [if_pos c11] at H
        have c11b0 : decide (x14_1 < (l0_2.length : Int)) = true := decide_eq_true c11
        clear c11
        by_cases c12 : 0 ≤ x14_1
        · rw [if_pos c12] at H
          have c12b0 : decide (0 ≤ x14_1) = true := decide_eq_true c12
          clear c12
          by_cases c13 : x14_1 < (l0_2.length : Int)
          · rw [if_pos c13] at H
            have c13b0 : decide (x14_1 < (l0_2.length : Int)) = true := decide_eq_true c13
            clear c13
            by_cases c14 : x146002_1.length < 2932031007402
            · rw [if_pos c14] at H
              have LMc14 := Aside0.mk c14
              clear c14
              obtain ⟨y148, hy148⟩ : ∃ y_ : List (S65), y_ = (x146002_1 ++ [(⟨(rd_T61 l0_2 x14_1).f0, (rd_T61 l0_2 x14_1).f1, (rd_T61 l0_2 x14_1).f2, (rd_T61 l0_2 x14_1).f3⟩ : S65)]) := ⟨_, rfl⟩
              replace H : (laminalaw17_plain.l0 k1 l0_2 (l0_2.length : Int) (wrap64 (x14_1 + 1)) a0_0 a0_1 y148) = some (r1, r2, r3) := by first | (rw [hy148]; with_reducible exact H) | (have H2_ := (Option.bind_some _ _).symm.trans H; rw [hy148]; with_reducible exact H2_) | (have H2_ := (Option.bind_some _ _).symm.trans H; with_reducible exact H2_) | with_reducible exact H | (rw [hy148]; exact H) | exact H
              have Ny148 := Aside0.mk hy148
              clear hy148
              have H' := Aside0.mk H
              clear H
              have p146 : 0 ≤ (x14_1 : Int) := of_decide_eq_true (by first | (with_reducible assumption) | assumption)
              have q146 : x14_1 < (l0_2.length : Int) := of_decide_eq_true (by first | (with_reducible assumption) | assumption)
              obtain ⟨ad146, A146_3, c146_3, e146, hx146_0, hx146_1, hx146_2, hx146_3, hl146_3, hi146_3⟩ := at_T61 (Kd.V_reads' HO_12.out).2.2 x14_1 p146 q146
              cases e146
              obtain ⟨ce146, hce146, hMe146, hcc146⟩ := Kd.V_get HO_12.out z61 x14_1 p146 (by first | exact q146 | exact of_decide_eq_true (by first | (with_reducible assumption) | assumption) | (have e_ := (Kd.V_reads' HO_12.out).1; omega))
              obtain ⟨ua146_3, uc146_3, rfl, ul146_3, ge146_3⟩ := k61_openF hMe146
              have hv146_3 := hcc146 3 _ rfl
              rw [add_field _ _ 3 (by omega)] at hv146_3
              replace hv146_3 := Option.some.inj (hv146_3.symm.trans hx146_3)
              injection hv146_3 with hva_ hvn_ hvc_
              rw [hva_] at ge146_3
              rw [hvc_] at ul146_3
              have HL146_3 := Aside0.mk (show Kd.V (Kd.int .u8) 5 _ w.heap.size _ _ ((rd_T61 l0_2 x14_1).f3) from Kd.V_mk ul146_3 ge146_3)
              clear hva_ hvn_ hvc_ ge146_3 ul146_3
              clear hcc146 hce146
              have HR146_3 := Aside0.mk hi146_3
              have HC146_3 := Aside0.mk hl146_3
              clear hi146_3 hl146_3
              replace p146 := eq_true p146
              replace q146 := eq_true q146
              go_wp2_with (first | ((with_reducible refine gate_dst (N := 5) rfl ?_); refine box_event ?hg (N := 5) ?hd (cs := #[.int .i64 0, .int .i64 0, .bool false, .slice none 0 0]) (t := 61) ?hr ?_; (case hd => rfl); (case hg => rfl); (case hr => first | (go_simp; done) | (go_simp; rfl)); intro gb147 hg w15 hbox hb; have n0_ := Aside0.mk (Kd.V_below (Kd.V_elderB (by (with_reducible repeat (first | apply Kd.V_alloc | apply Kd.V_drewN | apply Kd.V_drew)); exact HO_12.out) gb147 (Nat.le_of_eq hg.symm)) hb); have n1_ := Aside0.mk (Kd.V_below (Kd.V_elderB (by (with_reducible repeat (first | apply Kd.V_alloc | apply Kd.V_drewN | apply Kd.V_drew)); exact HO_144002.out) gb147 (Nat.le_of_eq hg.symm)) hb); have n2_ := Aside0.mk (Kd.N_below (Kd.N_elderB (by (with_reducible repeat (first | apply Kd.N_alloc | apply Kd.N_drewN | apply Kd.N_drew)); exact HO_146002.out) gb147 (Nat.le_of_eq hg.symm)) hb); have n3_ := Aside0.mk (Kd.V_below (Kd.V_elderB (by (with_reducible repeat (first | apply Kd.V_alloc | apply Kd.V_drewN | apply Kd.V_drew)); exact HL146_3.out) gb147 (Nat.le_of_eq hg.symm)) hb); have n4_ := Aside0.mk (blk_below (g := gb143) (o := .cells #[.int .i64 a0_0, .int .i64 a0_1, .slice (some ad146) l0_2.length c0_2] 35 (0, 0)) (by (with_reducible repeat (first | refine blk_drewN ?_ _ | refine blk_drew ?_ | refine blk_alloc ?_ _)); exact BK143.out) hb); have n5_ := Aside0.mk (blk_below (g := gb144) (o := .cells #[.int .i64 0, .int .i64 0, .slice none 0 0] 24 (0, 0)) (by (with_reducible repeat (first | refine blk_drewN ?_ _ | refine blk_drew ?_ | refine blk_alloc ?_ _)); exact BK144.out) hb); have n6_ := Aside0.mk (blk_below (g := gb145) (o := .cells #[.int .i64 a0_0, .int .i64 a0_1, u146002] 24 (0, 0)) (by (with_reducible repeat (first | refine blk_drewN ?_ _ | refine blk_drew ?_ | refine blk_alloc ?_ _)); exact BK145.out) hb); have n7_ := Aside0.mk (Kd.C_below (by repeat (first | (with_reducible exact HR146_3.out) | (with_reducible refine Kd.C_alloc ?_ _) | (with_reducible refine Kd.C_drewN ?_ _) | (with_reducible refine Kd.C_drew ?_) | exact HR146_3.out)) hb); have n8_ := Aside0.mk (below_step (by repeat (first | (with_reducible first | exact HB.out | apply below_alloc | apply pw_below_drewN | apply below_drew1 | refine below_set ?_ GE143.out | refine below_set ?_ GE144.out | refine below_set ?_ GE145.out) | exact HB.out)) hb); have n9_ := Aside0.mk (hbox); have n10_ := Aside0.mk ((by rw [hg]; exact (below_size (by repeat (first | (with_reducible first | exact HB.out | apply below_alloc | apply pw_below_drewN | apply below_drew1 | refine below_set ?_ GE143.out | refine below_set ?_ GE144.out | refine below_set ?_ GE145.out) | exact HB.out))) : w.heap.size ≤ gb147)); have n11_ := Aside0.mk ((by rw [hg]; exact (below_size (by repeat (first | (with_reducible first | exact HB.out | apply below_alloc | apply pw_below_drewN | apply below_drew1 | refine below_set ?_ GE143.out | refine below_set ?_ GE144.out | refine below_set ?_ GE145.out) | exact HB.out))) : w.heap.size ≤ gb147)); have n12_ := Aside0.mk ((by rw [hg]; exact Nat.ne_of_lt (blk_lt (g := gb143) (o := .cells #[.int .i64 a0_0, .int .i64 a0_1, .slice (some ad146) l0_2.length c0_2] 35 (0, 0)) (by (with_reducible repeat (first | refine blk_drewN ?_ _ | refine blk_drew ?_ | refine blk_alloc ?_ _)); exact BK143.out)) : gb143 ≠ gb147)); have n13_ := Aside0.mk ((by rw [hg]; exact Nat.ne_of_gt (blk_lt (g := gb143) (o := .cells #[.int .i64 a0_0, .int .i64 a0_1, .slice (some ad146) l0_2.length c0_2] 35 (0, 0)) (by (with_reducible repeat (first | refine blk_drewN ?_ _ | refine blk_drew ?_ | refine blk_alloc ?_ _)); exact BK143.out)) : gb147 ≠ gb143)); have n14_ := Aside0.mk ((by rw [hg]; exact Nat.ne_of_lt (blk_lt (g := gb144) (o := .cells #[.int .i64 0, .int .i64 0, .slice none 0 0] 24 (0, 0)) (by (with_reducible repeat (first | refine blk_drewN ?_ _ | refine blk_drew ?_ | refine blk_alloc ?_ _)); exact BK144.out)) : gb144 ≠ gb147)); have n15_ := Aside0.mk ((by rw [hg]; exact Nat.ne_of_gt (blk_lt (g := gb144) (o := .cells #[.int .i64 0, .int .i64 0, .slice none 0 0] 24 (0, 0)) (by (with_reducible repeat (first | refine blk_drewN ?_ _ | refine blk_drew ?_ | refine blk_alloc ?_ _)); exact BK144.out)) : gb147 ≠ gb144)); have n16_ := Aside0.mk ((by rw [hg]; exact Nat.ne_of_lt (blk_lt (g := gb145) (o := .cells #[.int .i64 a0_0, .int .i64 a0_1, u146002] 24 (0, 0)) (by (with_reducible repeat (first | refine blk_drewN ?_ _ | refine blk_drew ?_ | refine blk_alloc ?_ _)); exact BK145.out)) : gb145 ≠ gb147)); have n17_ := Aside0.mk ((by rw [hg]; exact Nat.ne_of_gt (blk_lt (g := gb145) (o := .cells #[.int .i64 a0_0, .int .i64 a0_1, u146002] 24 (0, 0)) (by (with_reducible repeat (first | refine blk_drewN ?_ _ | refine blk_drew ?_ | refine blk_alloc ?_ _)); exact BK145.out)) : gb147 ≠ gb145)); clear HO_12; clear HO_144002; clear HO_146002; clear HL146_3; clear BK143; clear BK144; clear BK145; clear HR146_3; clear HB; have HO_12 := n0_; have HO_144002 := n1_; have HO_146002 := n2_; have HL146_3 := n3_; have BK143 := n4_; have BK144 := n5_; have BK145 := n6_; have HR146_3 := n7_; have HB := n8_; have BK147 := n9_; have GW147 := n10_; have GE147 := n11_; have NB143_147 := n12_; have NB147_143 := n13_; have NB144_147 := n14_; have NB147_144 := n15_; have NB145_147 := n16_; have NB147_145 := n17_; clear n0_ n1_ n2_ n3_ n4_ n5_ n6_ n7_ n8_ n9_ n10_ n11_ n12_ n13_ n14_ n15_ n16_ n17_; clear hb hbox hg; have hnb16 := NB147_143.out; have hnc16 := NB143_147.out; have hnb17 := NB147_144.out; have hnc17 := NB144_147.out; have hnb18 := NB147_145.out; have hnc18 := NB145_147.out; have hcz19_0 : w15.cell? ⟨gb147, 0, none⟩ = some (.int .i64 0) := (blk_cell BK147.out 0).trans rfl; have hcz19_1 : w15.cell? ⟨gb147, 1, none⟩ = some (.int .i64 0) := (blk_cell BK147.out 1).trans rfl; have hcz19_2 : w15.cell? ⟨gb147, 2, none⟩ = some (.bool false) := (blk_cell BK147.out 2).trans rfl; have hcz19_3 : w15.cell? ⟨gb147, 3, none⟩ = some (.slice none 0 0) := (blk_cell BK147.out 3).trans rfl; have hfz19_0 := blk_frozen BK147.out 0; have hfz19_1 := blk_frozen BK147.out 1; have hfz19_2 := blk_frozen BK147.out 2; have hfz19_3 := blk_frozen BK147.out 3) | ((with_reducible refine gate_store (t := 61) (p := 5) rfl ?_); refine store_event (t := 61) (p := 5) (v := ?vo_w20) (w1 := ((((w15.setCell ⟨gb147, 0, none⟩ (.int .i64 ((rd_T61 l0_2 x14_1).f0))).setCell ⟨gb147, 1, none⟩ (.int .i64 ((rd_T61 l0_2 x14_1).f1))).setCell ⟨gb147, 2, none⟩ (.bool ((rd_T61 l0_2 x14_1).f2))).setCell ⟨gb147, 3, none⟩ (.slice A146_3 ((rd_T61 l0_2 x14_1).f3).length c146_3))) ?hg ?ho ?hn ?hr ?_; (case ho => rfl); (case hg => rfl); (case hn => rfl); (case hr => first | (go_simp; done) | (go_simp; rfl)); intro w20 hw; have n0_ : Aside0 (Kd.V k61 61 w20 w.heap.size (fun k_ => (P0_2_ k_ ∨ w.heap.size ≤ k_) ∧ some k_ ≠ (u146002 : Value).ownBlock ∧ k_ ≠ gb143 ∧ k_ ≠ gb144 ∧ k_ ≠ gb145 ∧ k_ ≠ gb147) (.slice (some ad146) l0_2.length c0_2) l0_2) := ⟨(by rw [hw]; exact (by (with_reducible repeat (first | apply Kd.V_alloc | apply Kd.V_drewN | apply Kd.V_drew)); exact Kd.V_mono (Kd.V_far (p := ⟨gb147, 3, none⟩) (Kd.V_far (p := ⟨gb147, 2, none⟩) (Kd.V_far (p := ⟨gb147, 1, none⟩) (Kd.V_far (p := ⟨gb147, 0, none⟩) (Kd.V_mono HO_12.out (fun k_ hk => (⟨hk, hk.2⟩ : _ ∧ k_ ≠ gb147))) (fun _ hk => hk.2) (.int .i64 ((rd_T61 l0_2 x14_1).f0))) (fun _ hk => hk.2) (.int .i64 ((rd_T61 l0_2 x14_1).f1))) (fun _ hk => hk.2) (.bool ((rd_T61 l0_2 x14_1).f2))) (fun _ hk => hk.2) (.slice A146_3 ((rd_T61 l0_2 x14_1).f3).length c146_3)) (fun _ hk => ⟨hk.1.1.1, ⟨hk.1.1.2.1, ⟨hk.1.1.2.2.1, ⟨hk.1.1.2.2.2.1, ⟨hk.1.1.2.2.2.2, hk.1.2⟩⟩⟩⟩⟩)))⟩; have n1_ : Aside0 (Kd.V k61 61 w20 w.heap.size (fun k_ => (P0_2_ k_ ∨ w.heap.size ≤ k_) ∧ some k_ ≠ (u146002 : Value).ownBlock ∧ k_ ≠ gb143 ∧ k_ ≠ gb144 ∧ k_ ≠ gb145 ∧ k_ ≠ gb147) (.slice (some ad146) l0_2.length c0_2) l0_2) := ⟨(by rw [hw]; exact (by (with_reducible repeat (first | apply Kd.V_alloc | apply Kd.V_drewN | apply Kd.V_drew)); exact Kd.V_mono (Kd.V_far (p := ⟨gb147, 3, none⟩) (Kd.V_far (p := ⟨gb147, 2, none⟩) (Kd.V_far (p := ⟨gb147, 1, none⟩) (Kd.V_far (p := ⟨gb147, 0, none⟩) (Kd.V_mono HO_144002.out (fun k_ hk => (⟨hk, hk.2⟩ : _ ∧ k_ ≠ gb147))) (fun _ hk => hk.2) (.int .i64 ((rd_T61 l0_2 x14_1).f0))) (fun _ hk => hk.2) (.int .i64 ((rd_T61 l0_2 x14_1).f1))) (fun _ hk => hk.2) (.bool ((rd_T61 l0_2 x14_1).f2))) (fun _ hk => hk.2) (.slice A146_3 ((rd_T61 l0_2 x14_1).f3).length c146_3)) (fun _ hk => ⟨hk.1.1.1, ⟨hk.1.1.2.1, ⟨hk.1.1.2.2.1, ⟨hk.1.1.2.2.2.1, ⟨hk.1.1.2.2.2.2, hk.1.2⟩⟩⟩⟩⟩)))⟩; have n2_ : Aside0 (Kd.N k65 65 w20 w.heap.size (fun k_ => (P0_2_ k_ ∨ w.heap.size ≤ k_) ∧ k_ ≠ gb143 ∧ k_ ≠ gb144 ∧ k_ ≠ gb145 ∧ k_ ≠ gb147) u146002 x146002_1) := ⟨(by rw [hw]; exact (by (with_reducible repeat (first | apply Kd.N_alloc | apply Kd.N_drewN | apply Kd.N_drew)); exact Kd.N_mono (Kd.N_far (p := ⟨gb147, 3, none⟩) (Kd.N_far (p := ⟨gb147, 2, none⟩) (Kd.N_far (p := ⟨gb147, 1, none⟩) (Kd.N_far (p := ⟨gb147, 0, none⟩) (Kd.N_mono HO_146002.out (fun k_ hk => (⟨hk, hk.2⟩ : _ ∧ k_ ≠ gb147))) (fun _ hk => hk.2) (.int .i64 ((rd_T61 l0_2 x14_1).f0))) (fun _ hk => hk.2) (.int .i64 ((rd_T61 l0_2 x14_1).f1))) (fun _ hk => hk.2) (.bool ((rd_T61 l0_2 x14_1).f2))) (fun _ hk => hk.2) (.slice A146_3 ((rd_T61 l0_2 x14_1).f3).length c146_3)) (fun _ hk => ⟨hk.1.1.1, ⟨hk.1.1.2.1, ⟨hk.1.1.2.2.1, ⟨hk.1.1.2.2.2, hk.1.2⟩⟩⟩⟩)))⟩; have n3_ : Aside0 (Kd.V (Kd.int .u8) 5 w20 w.heap.size (fun k_ => (P0_2_ k_ ∨ w.heap.size ≤ k_) ∧ some k_ ≠ (u146002 : Value).ownBlock ∧ k_ ≠ gb143 ∧ k_ ≠ gb144 ∧ k_ ≠ gb145 ∧ k_ ≠ gb147) (.slice A146_3 ((rd_T61 l0_2 x14_1).f3).length c146_3) ((rd_T61 l0_2 x14_1).f3)) := ⟨(by rw [hw]; exact (by (with_reducible repeat (first | apply Kd.V_alloc | apply Kd.V_drewN | apply Kd.V_drew)); exact Kd.V_mono (Kd.V_far (p := ⟨gb147, 3, none⟩) (Kd.V_far (p := ⟨gb147, 2, none⟩) (Kd.V_far (p := ⟨gb147, 1, none⟩) (Kd.V_far (p := ⟨gb147, 0, none⟩) (Kd.V_mono HL146_3.out (fun k_ hk => (⟨hk, hk.2⟩ : _ ∧ k_ ≠ gb147))) (fun _ hk => hk.2) (.int .i64 ((rd_T61 l0_2 x14_1).f0))) (fun _ hk => hk.2) (.int .i64 ((rd_T61 l0_2 x14_1).f1))) (fun _ hk => hk.2) (.bool ((rd_T61 l0_2 x14_1).f2))) (fun _ hk => hk.2) (.slice A146_3 ((rd_T61 l0_2 x14_1).f3).length c146_3)) (fun _ hk => ⟨hk.1.1.1, ⟨hk.1.1.2.1, ⟨hk.1.1.2.2.1, ⟨hk.1.1.2.2.2.1, ⟨hk.1.1.2.2.2.2, hk.1.2⟩⟩⟩⟩⟩)))⟩; have n4_ : Aside0 (w20.heap[gb143]? = some (.cells #[.int .i64 a0_0, .int .i64 a0_1, .slice (some ad146) l0_2.length c0_2] 35 (0, 0))) := ⟨(by rw [hw]; exact (by (with_reducible repeat (first | refine blk_drewN ?_ _ | refine blk_drew ?_ | refine blk_alloc ?_ _)); refine blk_far ?_ NB143_147.out _; (with_reducible repeat (first | refine blk_drewN ?_ _ | refine blk_drew ?_ | refine blk_alloc ?_ _)); refine blk_far ?_ NB143_147.out _; (with_reducible repeat (first | refine blk_drewN ?_ _ | refine blk_drew ?_ | refine blk_alloc ?_ _)); refine blk_far ?_ NB143_147.out _; (with_reducible repeat (first | refine blk_drewN ?_ _ | refine blk_drew ?_ | refine blk_alloc ?_ _)); refine blk_far ?_ NB143_147.out _; (with_reducible repeat (first | refine blk_drewN ?_ _ | refine blk_drew ?_ | refine blk_alloc ?_ _)); exact BK143.out))⟩; have n5_ : Aside0 (w20.heap[gb144]? = some (.cells #[.int .i64 0, .int .i64 0, .slice none 0 0] 24 (0, 0))) := ⟨(by rw [hw]; exact (by (with_reducible repeat (first | refine blk_drewN ?_ _ | refine blk_drew ?_ | refine blk_alloc ?_ _)); refine blk_far ?_ NB144_147.out _; (with_reducible repeat (first | refine blk_drewN ?_ _ | refine blk_drew ?_ | refine blk_alloc ?_ _)); refine blk_far ?_ NB144_147.out _; (with_reducible repeat (first | refine blk_drewN ?_ _ | refine blk_drew ?_ | refine blk_alloc ?_ _)); refine blk_far ?_ NB144_147.out _; (with_reducible repeat (first | refine blk_drewN ?_ _ | refine blk_drew ?_ | refine blk_alloc ?_ _)); refine blk_far ?_ NB144_147.out _; (with_reducible repeat (first | refine blk_drewN ?_ _ | refine blk_drew ?_ | refine blk_alloc ?_ _)); exact BK144.out))⟩; have n6_ : Aside0 (w20.heap[gb145]? = some (.cells #[.int .i64 a0_0, .int .i64 a0_1, u146002] 24 (0, 0))) := ⟨(by rw [hw]; exact (by (with_reducible repeat (first | refine blk_drewN ?_ _ | refine blk_drew ?_ | refine blk_alloc ?_ _)); refine blk_far ?_ NB145_147.out _; (with_reducible repeat (first | refine blk_drewN ?_ _ | refine blk_drew ?_ | refine blk_alloc ?_ _)); refine blk_far ?_ NB145_147.out _; (with_reducible repeat (first | refine blk_drewN ?_ _ | refine blk_drew ?_ | refine blk_alloc ?_ _)); refine blk_far ?_ NB145_147.out _; (with_reducible repeat (first | refine blk_drewN ?_ _ | refine blk_drew ?_ | refine blk_alloc ?_ _)); refine blk_far ?_ NB145_147.out _; (with_reducible repeat (first | refine blk_drewN ?_ _ | refine blk_drew ?_ | refine blk_alloc ?_ _)); exact BK145.out))⟩; have n7_ : Aside0 (w20.heap[gb147]? = some (.cells #[.int .i64 ((rd_T61 l0_2 x14_1).f0), .int .i64 ((rd_T61 l0_2 x14_1).f1), .bool ((rd_T61 l0_2 x14_1).f2), .slice A146_3 ((rd_T61 l0_2 x14_1).f3).length c146_3] 61 (0, 0))) := ⟨(by rw [hw]; exact (by (with_reducible repeat (first | refine blk_drewN ?_ _ | refine blk_drew ?_ | refine blk_alloc ?_ _)); refine blk_put (cs := #[.int .i64 ((rd_T61 l0_2 x14_1).f0), .int .i64 ((rd_T61 l0_2 x14_1).f1), .bool ((rd_T61 l0_2 x14_1).f2), .slice none 0 0]) ?_ 3 _ rfl; (with_reducible repeat (first | refine blk_drewN ?_ _ | refine blk_drew ?_ | refine blk_alloc ?_ _)); refine blk_put (cs := #[.int .i64 ((rd_T61 l0_2 x14_1).f0), .int .i64 ((rd_T61 l0_2 x14_1).f1), .bool false, .slice none 0 0]) ?_ 2 _ rfl; (with_reducible repeat (first | refine blk_drewN ?_ _ | refine blk_drew ?_ | refine blk_alloc ?_ _)); refine blk_put (cs := #[.int .i64 ((rd_T61 l0_2 x14_1).f0), .int .i64 0, .bool false, .slice none 0 0]) ?_ 1 _ rfl; (with_reducible repeat (first | refine blk_drewN ?_ _ | refine blk_drew ?_ | refine blk_alloc ?_ _)); refine blk_put (cs := #[.int .i64 0, .int .i64 0, .bool false, .slice none 0 0]) ?_ 0 _ rfl; (with_reducible repeat (first | refine blk_drewN ?_ _ | refine blk_drew ?_ | refine blk_alloc ?_ _)); exact BK147.out))⟩; have n8_ : Aside0 (Below w.heap.size w w20) := ⟨(by rw [hw]; exact (by repeat (first | (with_reducible first | exact HB.out | apply below_alloc | apply pw_below_drewN | apply below_drew1 | refine below_set ?_ GE143.out | refine below_set ?_ GE144.out | refine below_set ?_ GE145.out | refine below_set ?_ GE147.out) | exact HB.out)))⟩; clear hw; clear HO_12; clear HO_144002; clear HO_146002; clear HL146_3; clear BK143; clear BK144; clear BK145; clear BK147; clear HB; have HO_12 := n0_; have HO_144002 := n1_; have HO_146002 := n2_; have HL146_3 := n3_; have BK143 := n4_; have BK144 := n5_; have BK145 := n6_; have BK147 := n7_; have HB := n8_; clear n0_ n1_ n2_ n3_ n4_ n5_ n6_ n7_ n8_; have hnb21 := NB145_143.out; have hnc21 := NB143_145.out; have hnb22 := NB145_144.out; have hnc22 := NB144_145.out; have hcz23_0 : w20.cell? ⟨gb145, 0, none⟩ = some (.int .i64 a0_0) := (blk_cell BK145.out 0).trans rfl; have hcz23_1 : w20.cell? ⟨gb145, 1, none⟩ = some (.int .i64 a0_1) := (blk_cell BK145.out 1).trans rfl; have hcz23_2 : w20.cell? ⟨gb145, 2, none⟩ = some (u146002) := (blk_cell BK145.out 2).trans rfl; have hfz23_0 := blk_frozen BK145.out 0; have hfz23_1 := blk_frozen BK145.out 1; have hfz23_2 := blk_frozen BK145.out 2; have hcz24_0 : w20.cell? ⟨gb147, 0, none⟩ = some (.int .i64 ((rd_T61 l0_2 x14_1).f0)) := (blk_cell BK147.out 0).trans rfl; have hcz24_1 : w20.cell? ⟨gb147, 1, none⟩ = some (.int .i64 ((rd_T61 l0_2 x14_1).f1)) := (blk_cell BK147.out 1).trans rfl; have hcz24_2 : w20.cell? ⟨gb147, 2, none⟩ = some (.bool ((rd_T61 l0_2 x14_1).f2)) := (blk_cell BK147.out 2).trans rfl; have hcz24_3 : w20.cell? ⟨gb147, 3, none⟩ = some (.slice A146_3 ((rd_T61 l0_2 x14_1).f3).length c146_3) := (blk_cell BK147.out 3).trans rfl; have hfz24_0 := blk_frozen BK147.out 0; have hfz24_1 := blk_frozen BK147.out 1; have hfz24_2 := blk_frozen BK147.out 2; have hfz24_3 := blk_frozen BK147.out 3) | ((with_reducible refine gate_builtin (b := .append) (xs := #[.tmp 19, .tmp 29]) rfl ?_); at_builtin; refine Kd.N_append k65 (w0 := w) w.heap.size rfl (.tmp 19) (.tmp 29) 22 65 (.agg #[(.int .i64 0), (.int .i64 0), (.bool false), (.slice none 0 0)]) 48 rfl Try.underlying22 info65 rfl (by decide) (by omega) u146002 x146002_1 (⟨(rd_T61 l0_2 x14_1).f0, (rd_T61 l0_2 x14_1).f1, (rd_T61 l0_2 x14_1).f2, (rd_T61 l0_2 x14_1).f3⟩ : S65) [.int .i64 ((rd_T61 l0_2 x14_1).f0), .int .i64 ((rd_T61 l0_2 x14_1).f1), .bool ((rd_T61 l0_2 x14_1).f2), .slice A146_3 ((rd_T61 l0_2 x14_1).f3).length c146_3] (fun k_ => (P0_2_ k_ ∨ w.heap.size ≤ k_) ∧ k_ ≠ gb143 ∧ k_ ≠ gb144 ∧ k_ ≠ gb145 ∧ k_ ≠ gb147) (fun k_ => ((fun k_ => (P0_2_ k_ ∨ w.heap.size ≤ k_) ∧ k_ ≠ gb143 ∧ k_ ≠ gb144 ∧ k_ ≠ gb145 ∧ k_ ≠ gb147)) k_ ∧ some k_ ≠ (u146002 : Value).ownBlock) rfl rfl ?aP (fun _ hk => hk) ?aF ?aO ?aB ?aS ?aL ?_; (case aP => exact (k65_mkF _ _ (⟨(rd_T61 l0_2 x14_1).f0, (rd_T61 l0_2 x14_1).f1, (rd_T61 l0_2 x14_1).f2, (rd_T61 l0_2 x14_1).f3⟩ : S65) (Kd.V_reads' (Kd.V_mono (ok' := (fun k_ => ((fun k_ => (P0_2_ k_ ∨ w.heap.size ≤ k_) ∧ k_ ≠ gb143 ∧ k_ ≠ gb144 ∧ k_ ≠ gb145 ∧ k_ ≠ gb147)) k_ ∧ some k_ ≠ (u146002 : Value).ownBlock)) (HL146_3.out) (fun k_ hk => ⟨⟨hk.1, ⟨hk.2.2.1, ⟨hk.2.2.2.1, ⟨hk.2.2.2.2.1, hk.2.2.2.2.2⟩⟩⟩⟩, hk.2.1⟩))).2.1 (Kd.V_F (Kd.V_mono (ok' := (fun k_ => ((fun k_ => (P0_2_ k_ ∨ w.heap.size ≤ k_) ∧ k_ ≠ gb143 ∧ k_ ≠ gb144 ∧ k_ ≠ gb145 ∧ k_ ≠ gb147)) k_ ∧ some k_ ≠ (u146002 : Value).ownBlock)) (HL146_3.out) (fun k_ hk => ⟨⟨hk.1, ⟨hk.2.2.1, ⟨hk.2.2.2.1, ⟨hk.2.2.2.2.1, hk.2.2.2.2.2⟩⟩⟩⟩, hk.2.1⟩))))); (case aB => exact (by repeat (first | (with_reducible first | exact HB.out | apply below_alloc | apply pw_below_drewN | apply below_drew1 | refine below_set ?_ GE143.out | refine below_set ?_ GE144.out | refine below_set ?_ GE145.out | refine below_set ?_ GE147.out) | exact HB.out))); (case aF => exact (fun k_ hk => ⟨(.inr (Nat.le_trans (below_size (by repeat (first | (with_reducible first | exact HB.out | apply below_alloc | apply pw_below_drewN | apply below_drew1 | refine below_set ?_ GE143.out | refine below_set ?_ GE144.out | refine below_set ?_ GE145.out | refine below_set ?_ GE147.out) | exact HB.out))) hk)), Kd.freshB (g := gb143) (o := .cells #[.int .i64 a0_0, .int .i64 a0_1, .slice (some ad146) l0_2.length c0_2] 35 (0, 0)) (by (with_reducible repeat (first | refine blk_drewN ?_ _ | refine blk_drew ?_ | refine blk_alloc ?_ _)); exact BK143.out) k_ hk, Kd.freshB (g := gb144) (o := .cells #[.int .i64 0, .int .i64 0, .slice none 0 0] 24 (0, 0)) (by (with_reducible repeat (first | refine blk_drewN ?_ _ | refine blk_drew ?_ | refine blk_alloc ?_ _)); exact BK144.out) k_ hk, Kd.freshB (g := gb145) (o := .cells #[.int .i64 a0_0, .int .i64 a0_1, u146002] 24 (0, 0)) (by (with_reducible repeat (first | refine blk_drewN ?_ _ | refine blk_drew ?_ | refine blk_alloc ?_ _)); exact BK145.out) k_ hk, Kd.freshB (g := gb147) (o := .cells #[.int .i64 ((rd_T61 l0_2 x14_1).f0), .int .i64 ((rd_T61 l0_2 x14_1).f1), .bool ((rd_T61 l0_2 x14_1).f2), .slice A146_3 ((rd_T61 l0_2 x14_1).f3).length c146_3] 61 (0, 0)) (by (with_reducible repeat (first | refine blk_drewN ?_ _ | refine blk_drew ?_ | refine blk_alloc ?_ _)); exact BK147.out) k_ hk⟩)); (case aO => exact (by (with_reducible repeat (first | apply Kd.N_alloc | apply Kd.N_drewN | apply Kd.N_drew)); exact HO_146002.out)); (case aS => exact (below_size (by repeat (first | (with_reducible first | exact HB.out | apply below_alloc | apply pw_below_drewN | apply below_drew1 | refine below_set ?_ GE143.out | refine below_set ?_ GE144.out | refine below_set ?_ GE145.out | refine below_set ?_ GE147.out) | exact HB.out)))); (case aL => have := LMc14.out; omega); intro v149 w25 ho hb hg hat; rw [← Ny148.out] at ho; have n0_ := Aside0.mk (Kd.V_afterv (ok := (fun k_ => (P0_2_ k_ ∨ w.heap.size ≤ k_) ∧ k_ ≠ gb143 ∧ k_ ≠ gb144 ∧ k_ ≠ gb145 ∧ k_ ≠ gb147)) (by (with_reducible repeat (first | apply Kd.V_alloc | apply Kd.V_drewN | apply Kd.V_drew)); exact Kd.V_mono HO_12.out (fun _ hk => ⟨⟨hk.1, ⟨hk.2.2.1, ⟨hk.2.2.2.1, ⟨hk.2.2.2.2.1, hk.2.2.2.2.2⟩⟩⟩⟩, hk.2.1⟩)) hg hat); have n1_ := Aside0.mk (Kd.V_afterv (ok := (fun k_ => (P0_2_ k_ ∨ w.heap.size ≤ k_) ∧ k_ ≠ gb143 ∧ k_ ≠ gb144 ∧ k_ ≠ gb145 ∧ k_ ≠ gb147)) (by (with_reducible repeat (first | apply Kd.V_alloc | apply Kd.V_drewN | apply Kd.V_drew)); exact Kd.V_mono HO_144002.out (fun _ hk => ⟨⟨hk.1, ⟨hk.2.2.1, ⟨hk.2.2.2.1, ⟨hk.2.2.2.2.1, hk.2.2.2.2.2⟩⟩⟩⟩, hk.2.1⟩)) hg hat); have n2_ := Aside0.mk (blk_grown (g := gb143) (o := .cells #[.int .i64 a0_0, .int .i64 a0_1, .slice (some ad146) l0_2.length c0_2] 35 (0, 0)) (by (with_reducible repeat (first | refine blk_drewN ?_ _ | refine blk_drew ?_ | refine blk_alloc ?_ _)); exact BK143.out) hg (Kd.N_ne HO_146002.out BK143.out (by decide))); have n3_ := Aside0.mk (blk_grown (g := gb144) (o := .cells #[.int .i64 0, .int .i64 0, .slice none 0 0] 24 (0, 0)) (by (with_reducible repeat (first | refine blk_drewN ?_ _ | refine blk_drew ?_ | refine blk_alloc ?_ _)); exact BK144.out) hg (Kd.N_ne HO_146002.out BK144.out (by decide))); have n4_ := Aside0.mk (blk_grown (g := gb145) (o := .cells #[.int .i64 a0_0, .int .i64 a0_1, u146002] 24 (0, 0)) (by (with_reducible repeat (first | refine blk_drewN ?_ _ | refine blk_drew ?_ | refine blk_alloc ?_ _)); exact BK145.out) hg (Kd.N_ne HO_146002.out BK145.out (by decide))); have n5_ := Aside0.mk (Kd.V_afterv (ok := (fun k_ => (P0_2_ k_ ∨ w.heap.size ≤ k_) ∧ k_ ≠ gb143 ∧ k_ ≠ gb144 ∧ k_ ≠ gb145 ∧ k_ ≠ gb147)) (by (with_reducible repeat (first | apply Kd.V_alloc | apply Kd.V_drewN | apply Kd.V_drew)); exact Kd.V_mono HL146_3.out (fun _ hk => ⟨⟨hk.1, ⟨hk.2.2.1, ⟨hk.2.2.2.1, ⟨hk.2.2.2.2.1, hk.2.2.2.2.2⟩⟩⟩⟩, hk.2.1⟩)) hg hat); have n6_ := Aside0.mk (blk_grown (g := gb147) (o := .cells #[.int .i64 ((rd_T61 l0_2 x14_1).f0), .int .i64 ((rd_T61 l0_2 x14_1).f1), .bool ((rd_T61 l0_2 x14_1).f2), .slice A146_3 ((rd_T61 l0_2 x14_1).f3).length c146_3] 61 (0, 0)) (by (with_reducible repeat (first | refine blk_drewN ?_ _ | refine blk_drew ?_ | refine blk_alloc ?_ _)); exact BK147.out) hg (Kd.N_ne HO_146002.out BK147.out (by decide))); have n7_ := Aside0.mk (hb); have n8_ := Aside0.mk (ho); clear HO_12; clear HO_144002; clear BK143; clear BK144; clear BK145; clear HL146_3; clear BK147; clear HB; clear HO_146002; have HO_12 := n0_; have HO_144002 := n1_; have BK143 := n2_; have BK144 := n3_; have BK145 := n4_; have HL146_3 := n5_; have BK147 := n6_; have HB := n7_; have HO150 := n8_; clear n0_ n1_ n2_ n3_ n4_ n5_ n6_ n7_ n8_; clear ho hb hg hat; obtain ⟨Ao26, co26, eo26⟩ := Kd.N_slice HO150.out; subst eo26; have hcz27_0 : w25.cell? ⟨gb145, 0, none⟩ = some (.int .i64 a0_0) := (blk_cell BK145.out 0).trans rfl; have hcz27_1 : w25.cell? ⟨gb145, 1, none⟩ = some (.int .i64 a0_1) := (blk_cell BK145.out 1).trans rfl; have hcz27_2 : w25.cell? ⟨gb145, 2, none⟩ = some (u146002) := (blk_cell BK145.out 2).trans rfl; have hfz27_0 := blk_frozen BK145.out 0; have hfz27_1 := blk_frozen BK145.out 1; have hfz27_2 := blk_frozen BK145.out 2))
              go_roundg k1
              case measure => have := HK1.out; omega
              case rel => exact ⟨(wrap64 (x14_1 + 1)), (y148), (.slice Ao26 y148.length co26), (by first | rfl | (simp; done) | (simp [*]; done)), H', ⟨by have := HK1.out; omega⟩, ⟨by (with_reducible repeat (first | apply Kd.V_alloc | apply Kd.V_drewN | apply Kd.V_drew)); exact Kd.V_mono (Kd.V_far (p := ⟨gb145, 2, none⟩) (Kd.V_mono HO_12.out (fun k_ hk => (⟨hk, hk.1.2.2.2.1⟩ : _ ∧ k_ ≠ gb145))) (fun _ hk => hk.2) (.slice Ao26 y148.length co26)) (fun _ hk => ⟨hk.1.1.1, ⟨hk.1.2, ⟨hk.1.1.2.1, ⟨hk.1.1.2.2.1, hk.1.1.2.2.2.1⟩⟩⟩⟩)⟩, ⟨by (with_reducible repeat (first | apply Kd.V_alloc | apply Kd.V_drewN | apply Kd.V_drew)); exact Kd.V_mono (Kd.V_far (p := ⟨gb145, 2, none⟩) (Kd.V_mono HO_144002.out (fun k_ hk => (⟨hk, hk.1.2.2.2.1⟩ : _ ∧ k_ ≠ gb145))) (fun _ hk => hk.2) (.slice Ao26 y148.length co26)) (fun _ hk => ⟨hk.1.1.1, ⟨hk.1.2, ⟨hk.1.1.2.1, ⟨hk.1.1.2.2.1, hk.1.1.2.2.2.1⟩⟩⟩⟩)⟩, ⟨by (with_reducible repeat (first | apply Kd.N_alloc | apply Kd.N_drewN | apply Kd.N_drew)); exact Kd.N_mono (Kd.N_far (p := ⟨gb145, 2, none⟩) (Kd.N_mono HO150.out (fun k_ hk => (⟨hk, hk.2.2.2.1⟩ : _ ∧ k_ ≠ gb145))) (fun _ hk => hk.2) (.slice Ao26 y148.length co26)) (fun _ hk => ⟨hk.1.1, ⟨hk.1.2.1, ⟨hk.1.2.2.1, hk.1.2.2.2.1⟩⟩⟩)⟩, ⟨by (with_reducible repeat (first | refine blk_drewN ?_ _ | refine blk_drew ?_ | refine blk_alloc ?_ _)); refine blk_far ?_ NB143_145.out _; (with_reducible repeat (first | refine blk_drewN ?_ _ | refine blk_drew ?_ | refine blk_alloc ?_ _)); exact BK143.out⟩, ⟨by (with_reducible repeat (first | refine blk_drewN ?_ _ | refine blk_drew ?_ | refine blk_alloc ?_ _)); refine blk_far ?_ NB144_145.out _; (with_reducible repeat (first | refine blk_drewN ?_ _ | refine blk_drew ?_ | refine blk_alloc ?_ _)); exact BK144.out⟩, ⟨by (with_reducible repeat (first | refine blk_drewN ?_ _ | refine blk_drew ?_ | refine blk_alloc ?_ _)); refine blk_put (cs := #[.int .i64 a0_0, .int .i64 a0_1, u146002]) ?_ 2 _ rfl; (with_reducible repeat (first | refine blk_drewN ?_ _ | refine blk_drew ?_ | refine blk_alloc ?_ _)); exact BK145.out⟩, ⟨by repeat (first | (with_reducible first | exact HB.out | apply below_alloc | apply pw_below_drewN | apply below_drew1 | refine below_set ?_ GE143.out | refine below_set ?_ GE144.out | refine below_set ?_ GE145.out | refine below_set ?_ GE147.out) | exact HB.out)⟩⟩
            · rw [if_neg c14] at H
              exact absurd H (by simp)
          · rw [if_neg c13] at H
            exact absurd H (by simp)
        · rw [if_neg c12] at H
          exact absurd H (by simp)
      · rw [if_neg c11] at H
        have c11b0 : decide (x14_1 < (l0_2.length : Int)) = false := decide_eq_false c11
        clear c11
        simp only [Option.some.injEq, Prod.mk.injEq] at H
        obtain ⟨rfl, rfl, rfl⟩ := H
        have hnb28 := NB145_143.out
        have hnc28 := NB143_145.out
        have hnb29 := NB145_144.out
        have hnc29 := NB144_145.out
        have hcz30_0 : wr.cell? ⟨gb145, 0, none⟩ = some (.int .i64 a0_0) := (blk_cell BK145.out 0).trans rfl
        have hcz30_1 : wr.cell? ⟨gb145, 1, none⟩ = some (.int .i64 a0_1) := (blk_cell BK145.out 1).trans rfl
        have hcz30_2 : wr.cell? ⟨gb145, 2, none⟩ = some (u146002) := (blk_cell BK145.out 2).trans rfl
        have hfz30_0 := blk_frozen BK145.out 0
        have hfz30_1 := blk_frozen BK145.out 1
        have hfz30_2 := blk_frozen BK145.out 2
        have hnb31 := NB144_143.out
        have hnc31 := NB143_144.out
        have hcz32_0 : wr.cell? ⟨gb144, 0, none⟩ = some (.int .i64 0) := (blk_cell BK144.out 0).trans rfl
        have hcz32_1 : wr.cell? ⟨gb144, 1, none⟩ = some (.int .i64 0) := (blk_cell BK144.out 1).trans rfl
        have hcz32_2 : wr.cell? ⟨gb144, 2, none⟩ = some (.slice none 0 0) := (blk_cell BK144.out 2).trans rfl
        have hfz32_0 := blk_frozen BK144.out 0
        have hfz32_1 := blk_frozen BK144.out 1
        have hfz32_2 := blk_frozen BK144.out 2
        obtain ⟨Ao33, co33, eo33⟩ := Kd.N_slice HO_146002.out
        subst eo33
        go_wp2
        refine bodyPost_ret (results_cell_row rfl _ _ gb144 24 #[.int .i64 a0_0, .int .i64 a0_1, .slice Ao33 x146002_1.length co33] (0, 0) _ rfl (by (with_reducible repeat (first | refine blk_drewN ?_ _ | refine blk_drew ?_ | refine blk_alloc ?_ _)); refine blk_put (cs := #[.int .i64 a0_0, .int .i64 a0_1, .slice none 0 0]) ?_ 2 _ rfl; (with_reducible repeat (first | refine blk_drewN ?_ _ | refine blk_drew ?_ | refine blk_alloc ?_ _)); refine blk_put (cs := #[.int .i64 a0_0, .int .i64 0, .slice none 0 0]) ?_ 1 _ rfl; (with_reducible repeat (first | refine blk_drewN ?_ _ | refine blk_drew ?_ | refine blk_alloc ?_ _)); refine blk_put (cs := #[.int .i64 0, .int .i64 0, .slice none 0 0]) ?_ 0 _ rfl; (with_reducible repeat (first | refine blk_drewN ?_ _ | refine blk_drew ?_ | refine blk_alloc ?_ _)); exact BK144.out) Try.underlying24 rfl (by kernel_rfl)) rfl ?_
        exact ⟨_, by first | rfl | (simp [errW_none, errW_some] <;> rfl) | (simp [*, errW_none, errW_some] <;> rfl), by (with_reducible repeat (first | apply Kd.N_alloc | apply Kd.N_drewN | apply Kd.N_drew)); exact Kd.N_mono (Kd.N_far (p := ⟨gb144, 2, none⟩) (Kd.N_far (p := ⟨gb144, 1, none⟩) (Kd.N_far (p := ⟨gb144, 0, none⟩) (Kd.N_mono HO_146002.out (fun k_ hk => (⟨hk, hk.2.2.1⟩ : _ ∧ k_ ≠ gb144))) (fun _ hk => hk.2) (.int .i64 a0_0)) (fun _ hk => hk.2) (.int .i64 a0_1)) (fun _ hk => hk.2) (.slice Ao33 x146002_1.length co33)) (fun _ hk => hk.1.1), by repeat (first | (with_reducible first | exact HB.out | apply below_alloc | apply pw_below_drewN | apply below_drew1 | refine below_set ?_ GE143.out | refine below_set ?_ GE144.out | refine below_set ?_ GE145.out) | exact HB.out)⟩

-- AUX facts17
theorem same_refl (l : List Int) : laminanum_Same.f l l = some true := by simp [laminanum_Same.f]
theorem rdR_mem (l : List S65) (i : Nat) (h : i < l.length) : rd_T65 l i = l[i] := by simp [rd_T65, h]
theorem large_go (l : List S65) (hl : l.length ≤ 40) : ∀ (m i k : Nat), i + m = l.length → m < k → ∃ r, laminalaw17_large.l0 k l (l.length : Int) i = some r ∧ (r = false → ∀ x ∈ l.drop i, x.f3.length ≤ 1000) := by
  intro m
  induction m with
  | zero =>
    intro i k hi hk
    obtain ⟨k, rfl⟩ : ∃ k', k = k' + 1 := ⟨k - 1, by omega⟩
    refine ⟨false, by rw [laminalaw17_large.l0, if_neg (by omega)], fun _ x hx => ?_⟩
    rw [List.drop_eq_nil_of_le (by omega)] at hx
    cases hx
  | succ m ih =>
    intro i k hi hk
    obtain ⟨k, rfl⟩ : ∃ k', k = k' + 1 := ⟨k - 1, by omega⟩
    have e : wrap64 ((i : Int) + 1) = ((i + 1 : Nat) : Int) := by unfold wrap64; omega
    rw [laminalaw17_large.l0, if_pos (by omega), if_pos (by omega), if_pos (by omega), e, rdR_mem l i (by omega), List.drop_eq_getElem_cons (show i < l.length by omega)]
    by_cases h : ((l[i]).f3.length : Int) > 1000
    · rw [if_pos h]; exact ⟨true, rfl, fun h => by cases h⟩
    · rw [if_neg h]
      obtain ⟨r, h1, h2⟩ := ih (i + 1) k (by omega) (by omega)
      refine ⟨r, h1, fun hr x hx => ?_⟩
      rcases List.mem_cons.1 hx with rfl | hx
      · omega
      · exact h2 hr x hx
theorem large_f (F T : Int) (l : List S65) : ∃ r, laminalaw17_large.f 50 F T l = some r ∧ (r = false → l.length ≤ 40 ∧ ∀ x ∈ l, x.f3.length ≤ 1000) := by
  unfold laminalaw17_large.f
  by_cases h : (l.length : Int) > 40
  · rw [if_pos h]; exact ⟨true, rfl, fun h => by cases h⟩
  · rw [if_neg h]
    obtain ⟨r, h1, h2⟩ := large_go l (by omega) l.length 0 50 (by omega) (by omega)
    exact ⟨r, h1, fun hr => ⟨by omega, by simpa using h2 hr⟩⟩
theorem program_go (l : List S65) (hl : l.length ≤ 40) (hd : ∀ x ∈ l, x.f3.length ≤ 1000) (F T : Int) : ∀ (m i k : Nat) (acc : List S61), i + m = l.length → m < k → acc.length ≤ i → laminalaw17_program.l0 k l (l.length : Int) i F T acc = some (F, T, acc ++ (l.drop i).map toP) := by
  intro m
  induction m with
  | zero =>
    intro i k acc hi hk ha
    obtain ⟨k, rfl⟩ : ∃ k', k = k' + 1 := ⟨k - 1, by omega⟩
    rw [laminalaw17_program.l0, if_neg (by omega), List.drop_eq_nil_of_le (by omega)]
    simp
  | succ m ih =>
    intro i k acc hi hk ha
    obtain ⟨k, rfl⟩ : ∃ k', k = k' + 1 := ⟨k - 1, by omega⟩
    have e : wrap64 ((i : Int) + 1) = ((i + 1 : Nat) : Int) := by unfold wrap64; omega
    have hx := hd l[i] (List.getElem_mem (by omega))
    rw [laminalaw17_program.l0, if_pos (by omega), if_pos (by omega), if_pos (by omega), e, rdR_mem l i (by omega), List.drop_eq_getElem_cons (show i < l.length by omega)]
    simp only [Option.bind_some, List.length_nil, List.nil_append]
    rw [if_pos (by omega), if_pos (by omega), ih (i + 1) k _ (by omega) (by omega) (by simp; omega)]
    simp only [List.map_cons, List.append_assoc, List.singleton_append]
    rfl
theorem program_f (F T : Int) (l : List S65) (hl : l.length ≤ 40) (hd : ∀ x ∈ l, x.f3.length ≤ 1000) : laminalaw17_program.f 50 F T l = some (F, T, l.map toP) := by
  have := program_go l hl hd F T l.length 0 50 [] (by omega) (by omega) (by simp)
  simpa [laminalaw17_program.f] using this
theorem rdP_mem (l : List S61) (i : Nat) (h : i < l.length) : rd_T61 l i = l[i] := by simp [rd_T61, h]
theorem plain_go (l : List S61) (hl : l.length ≤ 4000) (F T : Int) : ∀ (m i k : Nat) (acc : List S65), i + m = l.length → m < k → acc.length ≤ i → laminalaw17_plain.l0 k l (l.length : Int) i F T acc = some (F, T, acc ++ (l.drop i).map toR) := by
  intro m
  induction m with
  | zero =>
    intro i k acc hi hk ha
    obtain ⟨k, rfl⟩ : ∃ k', k = k' + 1 := ⟨k - 1, by omega⟩
    rw [laminalaw17_plain.l0, if_neg (by omega), List.drop_eq_nil_of_le (by omega)]
    simp
  | succ m ih =>
    intro i k acc hi hk ha
    obtain ⟨k, rfl⟩ : ∃ k', k = k' + 1 := ⟨k - 1, by omega⟩
    have e : wrap64 ((i : Int) + 1) = ((i + 1 : Nat) : Int) := by unfold wrap64; omega
    rw [laminalaw17_plain.l0, if_pos (by omega), if_pos (by omega), if_pos (by omega), e, rdP_mem l i (by omega), List.drop_eq_getElem_cons (show i < l.length by omega)]
    rw [if_pos (by omega), ih (i + 1) k _ (by omega) (by omega) (by simp; omega)]
    simp only [List.map_cons, List.append_assoc, List.singleton_append]
    rfl
theorem plain_f (F T : Int) (l : List S61) (hl : l.length ≤ 4000) : laminalaw17_plain.f 5000 F T l = some (F, T, l.map toR) := by
  have := plain_go l hl F T l.length 0 5000 [] (by omega) (by omega) (by simp)
  simpa [laminalaw17_plain.f] using this
theorem rapp_in (F T : Int) (L : List S65) (i : Int) (a n : Nat) (z : Bool) (d ys : List Int) (hy : ys.length = n) (hv : ∀ j (h : j < n), (if z = true then (0 : Int) else rd d j) = ys[j]) (hd : z = false → d.length = n) (hn : n ≤ 4096) (ha : a ≤ 4096) :
    ∀ (m j k : Nat) (out : List Int), j + m = n → m < k → a + n ≤ out.length → laminaref17_Apply.l1 k out i j F T L a n z d = laminaref17_Apply.l0 (k - m - 1) (putAt out (a + j) (ys.drop j)) (wrap64 (i + 1)) F T L := by
  intro m
  induction m with
  | zero =>
    intro j k out hj hk ho
    obtain ⟨k, rfl⟩ : ∃ k', k = k' + 1 := ⟨k - 1, by omega⟩
    rw [laminaref17_Apply.l1, if_neg (by omega), List.drop_eq_nil_of_le (by omega)]
    simp [putAt]
  | succ m ih =>
    intro j k out hj hk ho
    obtain ⟨k, rfl⟩ : ∃ k', k = k' + 1 := ⟨k - 1, by omega⟩
    have e : wrap64 ((j : Int) + 1) = ((j + 1 : Nat) : Int) := by unfold wrap64; omega
    have e2 : wrap64 ((a : Int) + j) = ((a + j : Nat) : Int) := by unfold wrap64; omega
    have hvj := hv j (by omega)
    rw [List.drop_eq_getElem_cons (show j < ys.length by omega), put_cons _ _ _ _ (by omega), ← hvj]
    have hi := ih (j + 1) k (out.set (a + j) (if z = true then (0 : Int) else rd d j)) (by omega) (by omega) (by simpa using ho)
    rw [laminaref17_Apply.l1, if_pos (by omega), e2, e]
    cases z
    · have hd2 := hd rfl
      simp only [Bool.false_eq_true, if_false] at hi ⊢
      rw [if_pos (by omega), if_pos (by omega), if_pos (by omega), if_pos (by omega), Int.toNat_natCast, hi]
      congr 1
      omega
    · simp only [if_true] at hi ⊢
      rw [if_pos (by omega), if_pos (by omega), Int.toNat_natCast, hi]
      congr 1
      omega
theorem rapp_go (F T : Int) (hT : 0 ≤ T ∧ T ≤ 4096) (L : List S65) (hL : L.length ≤ 4000) (hg : ∀ r ∈ L.map toP, 0 ≤ r.f0 ∧ 1 ≤ r.f1 ∧ r.f1 ≤ T ∧ r.f0 ≤ T - r.f1 ∧ (r.f3.length : Int) = (if r.f2 = true then 0 else r.f1)) :
    ∀ (m i k : Nat) (out : List Int), i + m = L.length → m * 5000 < k → (out.length : Int) = T → laminaref17_Apply.l0 k out i F T L = some (applyR out ((L.drop i).map toP)) := by
  intro m
  induction m with
  | zero =>
    intro i k out hi hk ho
    obtain ⟨k, rfl⟩ : ∃ k', k = k' + 1 := ⟨k - 1, by omega⟩
    rw [laminaref17_Apply.l0, if_neg (by omega), List.drop_eq_nil_of_le (by omega)]
    rfl
  | succ m ih =>
    intro i k out hi hk ho
    obtain ⟨k, rfl⟩ : ∃ k', k = k' + 1 := ⟨k - 1, by omega⟩
    have e : wrap64 ((i : Int) + 1) = ((i + 1 : Nat) : Int) := by unfold wrap64; omega
    have hr := hg (toP L[i]) (List.mem_map_of_mem (List.getElem_mem (by omega)))
    have hl := recYs_len T _ hr
    rw [laminaref17_Apply.l0, if_pos (by omega), if_pos (by omega), rdR_mem L i (by omega), List.drop_eq_getElem_cons (show i < L.length by omega), List.map_cons, applyR]
    generalize L[i] = r at *
    obtain ⟨r0, r1, z, d⟩ := r
    simp only [toP] at hr hl ⊢
    obtain ⟨a, rfl⟩ := Int.eq_ofNat_of_zero_le hr.1
    obtain ⟨n, rfl⟩ := Int.eq_ofNat_of_zero_le (show 0 ≤ r1 by omega)
    rw [Int.toNat_natCast] at hl ⊢
    have hv : ∀ j (h : j < n), (if z = true then (0 : Int) else rd d j) = (recYs ⟨(a : Int), (n : Int), z, d⟩)[j] := fun j hj => by
      cases z
      · simp only [recYs, Bool.false_eq_true, if_false] at hl ⊢
        simp [rd, show j < d.length by omega]
      · simp [recYs]
    have hz : z = false → d.length = n := fun hz => by
      subst hz
      simp only [recYs, Bool.false_eq_true, if_false] at hl
      exact hl
    have hin := rapp_in F T L i a n z d (recYs ⟨(a : Int), (n : Int), z, d⟩) hl hv hz (by omega) (by omega) n 0 k out (by omega) (by omega) (by omega)
    rw [Int.natCast_zero] at hin
    rw [hin, e]
    have hn : n ≤ 4096 := by omega
    rw [Nat.succ_mul] at hk
    generalize m * 5000 = q at *
    have hk2 : q < k - n - 1 := by omega
    refine (ih (i + 1) (k - n - 1) _ (by omega) hk2 ?_).trans ?_
    · rw [Nat.add_zero, List.drop_zero, putAt_len _ _ _ (by omega)]; exact ho
    · rw [Nat.add_zero, List.drop_zero]
theorem rapp_f (F : Int) (T : Nat) (hT : T ≤ 4096) (L : List S65) (hL : L.length ≤ 4000) (hg : goodD F T (L.map toP) = true) (old : List Int) (k : Nat) (hk : L.length * 5000 < k) (hk2 : T < k) : laminaref17_Apply.f k F T L old = some (applyR (szL old T) (L.map toP)) := by
  have hg2 : goodR T 0 (L.map toP) = true := by unfold goodD at hg; rw [Bool.and_eq_true] at hg; exact hg.2
  have hm := goodR_mem T (L.map toP) 0 hg2 (Int.le_refl 0)
  unfold laminaref17_Apply.f
  rw [resized_f old T (by omega) _ hk2, Option.bind_some]
  have := rapp_go F T (by omega) L hL hm L.length 0 k (szL old T) (by omega) hk (by rw [szL_len])
  simpa using this

-- AUX btw17
theorem drop_both (a m : Nat) (fresh was : List Int) (h : a ≤ fresh.length) : (fresh.take a ++ was.drop a).drop (a + m) = was.drop (a + m) := by
  rw [← List.drop_drop, List.drop_left' (by simp; omega), List.drop_drop]
theorem goodR_snoc (T : Int) : ∀ (l : List S61) (a e : Int) (r : S61), goodR T a l = true → a ≤ e → (∀ x ∈ l, x.f0 + x.f1 ≤ e) → e ≤ r.f0 → (1 ≤ r.f1 ∧ r.f1 ≤ T ∧ r.f0 ≤ T - r.f1 ∧ (r.f3.length : Int) = (if r.f2 = true then 0 else r.f1)) → goodR T a (l ++ [r]) = true
  | [], a, e, r, _, h1, _, h3, h4 => (goodR_cons T a r []).2 ⟨⟨by omega, h4⟩, rfl⟩
  | x :: l, a, e, r, h, h1, h2, h3, h4 => by
    obtain ⟨hx, hl⟩ := (goodR_cons T a x l).1 h
    exact (goodR_cons T a x (l ++ [r])).2 ⟨hx, goodR_snoc T l _ e r hl (h2 x (List.mem_cons_self ..)) (fun y hy => h2 y (List.mem_cons_of_mem _ hy)) h3 h4⟩
theorem zeroB_seg {l : List Int} (h : zeroB l = true) : l = List.replicate l.length 0 := by
  refine List.eq_replicate_iff.2 ⟨rfl, fun x hx => ?_⟩
  unfold zeroB at h
  rw [Bool.not_eq_true', List.any_eq_false] at h
  simpa using h x hx
theorem recOf_ys (a : Int) (b : List Int) : recYs (recOf a b) = b := by
  unfold recYs recOf
  cases h : zeroB b
  · simp
  · simp only [if_true]
    rw [Int.toNat_natCast]
    exact (zeroB_seg h).symm
theorem recOf_ok (T : Int) (a : Nat) (b : List Int) (h1 : 1 ≤ b.length) (h2 : (a : Int) + b.length ≤ T) : 1 ≤ (recOf a b).f1 ∧ (recOf a b).f1 ≤ T ∧ (recOf a b).f0 ≤ T - (recOf a b).f1 ∧ ((recOf a b).f3.length : Int) = (if (recOf a b).f2 = true then 0 else (recOf a b).f1) := by
  unfold recOf
  refine ⟨by simp; omega, by simp; omega, by simp; omega, ?_⟩
  cases h : zeroB b <;> simp
theorem btw_seg (l : List Int) (o i n : Nat) (hl : l.length = n) (hi : i * o < n) : (seg l (i * o) (pcM n o i)).length = pcM n o i ∧ 1 ≤ pcM n o i ∨ o = 0 := by
  rcases Nat.eq_zero_or_pos o with h | h
  · exact .inr h
  · refine .inl ⟨seg_len l _ _ (by unfold pcM; omega), by unfold pcM; omega⟩
theorem btw_good (was fresh : List Int) (o : Nat) (hw : was.length = fresh.length) (ho : 0 < o) (i : Nat) (hi : ∀ k, k < i → k * o < fresh.length) : goodR fresh.length 0 (btwL was fresh o i) = true ∧ ∀ x ∈ btwL was fresh o i, x.f0 + x.f1 ≤ (min (i * o) fresh.length : Nat) := by
  induction i with
  | zero => exact ⟨rfl, fun x hx => by cases hx⟩
  | succ i ih =>
    obtain ⟨h1, h2⟩ := ih (fun k hk => hi k (by omega))
    have hm := hi i (by omega)
    have hs := btw_seg fresh o i fresh.length rfl hm
    have hmul : (i + 1) * o = i * o + o := Nat.succ_mul i o
    have e : min ((i + 1) * o) fresh.length = i * o + pcM fresh.length o i := by unfold pcM; omega
    rw [show min (i * o) fresh.length = i * o by omega] at h2
    rw [btwL, e]
    rcases hs with ⟨hs, hp⟩ | h0
    · split
      · rw [List.append_nil]
        exact ⟨h1, fun x hx => by have := h2 x hx; omega⟩
      · have hok := recOf_ok fresh.length (i * o) (seg fresh (i * o) (pcM fresh.length o i)) (by omega) (by rw [hs]; unfold pcM; omega)
        refine ⟨goodR_snoc _ _ _ ((i * o : Nat) : Int) _ h1 (by omega) h2 (Int.le_refl _) hok, fun x hx => ?_⟩
        rcases List.mem_append.1 hx with hx | hx
        · have := h2 x hx; omega
        · rw [List.mem_singleton] at hx
          subst hx
          show ((i * o : Nat) : Int) + ((seg fresh (i * o) (pcM fresh.length o i)).length : Int) ≤ _
          rw [hs]; omega
    · omega
theorem btw_apply (was fresh : List Int) (o : Nat) (hw : was.length = fresh.length) (ho : 0 < o) (i : Nat) (hi : ∀ k, k < i → k * o < fresh.length) : applyR was (btwL was fresh o i) = fresh.take (min (i * o) fresh.length) ++ was.drop (min (i * o) fresh.length) := by
  induction i with
  | zero => simp [btwL, applyR]
  | succ i ih =>
    have h := ih (fun k hk => hi k (by omega))
    have hm := hi i (by omega)
    have hs := btw_seg fresh o i fresh.length rfl hm
    have hmul : (i + 1) * o = i * o + o := Nat.succ_mul i o
    have e : min ((i + 1) * o) fresh.length = i * o + pcM fresh.length o i := by unfold pcM; omega
    have hb : i * o + pcM fresh.length o i ≤ fresh.length := by unfold pcM; omega
    rw [show min (i * o) fresh.length = i * o by omega] at h
    rw [btwL, e]
    generalize pcM fresh.length o i = m at *
    generalize i * o = a at *
    have hf : fresh.take (a + m) = fresh.take a ++ seg fresh a m := by
      unfold seg
      rw [← List.take_append_drop a (fresh.take (a + m)), List.take_take, show min a (a + m) = a by omega]
      rw [List.drop_left' (by simp; omega)]
    rcases hs with ⟨hs, hp⟩ | h0
    · split
      · rename_i heq
        rw [List.append_nil, h, hf, ← heq, List.append_assoc]
        congr 1
        unfold seg
        rw [← List.drop_drop]
        rw [List.drop_take, show a + m - a = m by omega, List.take_append_drop]
      · rw [applyR_snoc, h, recOf_ys, hf]
        unfold putAt
        rw [show (recOf (a : Int) (seg fresh a m)).f0.toNat = a from Int.toNat_natCast a, hs]
        rw [List.take_left' (by simp; omega), drop_both a m fresh was (by omega)]
    · omega
theorem pcN_ok (n o : Nat) (ho : o = 16 ∨ o = 32 ∨ o = 64 ∨ o = 128 ∨ o = 256) : n ≤ pcN n o * o := by unfold pcN; rcases ho with rfl | rfl | rfl | rfl | rfl <;> omega
theorem btw_all (old fresh : List Int) (o : Nat) (hn : fresh.length ≤ 4096) (hold : old.length ≤ 4096) (ho : o = 16 ∨ o = 32 ∨ o = 64 ∨ o = 128 ∨ o = 256) : applyO old.length fresh.length (btwL (szL old fresh.length) fresh o (pcN fresh.length o)) old = (fresh, none) := by
  have hi : ∀ k, k < pcN fresh.length o → k * o < fresh.length := fun k hk => pcN_lt _ _ _ ho hk
  have hg := (btw_good (szL old fresh.length) fresh o (szL_len _ _) (by omega) _ hi).1
  have ha := btw_apply (szL old fresh.length) fresh o (szL_len _ _) (by omega) _ hi
  have hp := pcN_ok fresh.length o ho
  rw [show min (pcN fresh.length o * o) fresh.length = fresh.length by omega, List.take_of_length_le (Nat.le_refl _), List.drop_eq_nil_of_le (by rw [szL_len]; exact Nat.le_refl _), List.append_nil] at ha
  unfold applyO goodD
  rw [hg, decide_eq_true (by omega), Bool.and_true, if_pos rfl, if_pos rfl, Int.toNat_natCast, ha]

/-! ### laminaref12_Good: function 20 -/
def laminaref12_Good.f (a0 : Int) (a1 : Int) : Option (Bool) := if a0 ≥ 0 then (if a0 ≤ 4096 then (if a1 = 16 then (some true) else (if a1 = 32 then (some true) else (if a1 = 64 then (some true) else (if a1 = 128 then (some true) else (some (a1 == 256)))))) else (some false)) else (some false)
set_option maxHeartbeats 8000000 in
set_option maxRecDepth 100000 in
theorem laminaref12_Good.calls (a0 : Int) (a1 : Int) (r : Bool) (w : World) (h : laminaref12_Good.f a0 a1 = some r) :
    Calls Try.prog 20 #[.int .i64 a0, .int .i64 a1] w fun e w' => e = .returned (.bool r) ∧ Drawn0 w w' := by
  have H : (if a0 ≥ 0 then (if a0 ≤ 4096 then (if a1 = 16 then (some true) else (if a1 = 32 then (some true) else (if a1 = 64 then (some true) else (if a1 = 128 then (some true) else (some (a1 == 256)))))) else (some false)) else (some false)) = some r := h
  clear h
  by_cases c3 : a0 ≥ 0
  · rw [if_pos c3] at H
    have c3b0 : decide (0 ≤ a0) = true := decide_eq_true c3
    clear c3
    by_cases c4 : a0 ≤ 4096
    · rw [if_pos c4] at H
      have c4b0 : decide (a0 ≤ 4096) = true := decide_eq_true c4
      clear c4
      by_cases c5 : a1 = 16
      · rw [if_pos c5] at H
        have c5b0 : (a1 == 16) = true := beq_iff_eq.mpr c5
        have c5b1 : (a1 != 16) = false := bne_eq_false_iff_eq.mpr c5
        clear c5
        obtain rfl := Option.some.inj H
        go_enter Try.func20, Try.ntmps20
        go_wp2
        go_ret
        exact ⟨by first | rfl | (simp; done) | (simp [*]; done), by repeat (first | exact Drawn0.refl _ | apply Drawn0.step)⟩
      · rw [if_neg c5] at H
        have c5b0 : (a1 == 16) = false := beq_eq_false_iff_ne.mpr c5
        have c5b1 : (a1 != 16) = true := bne_iff_ne.mpr c5
        by_cases c6 : a1 = 32
        · rw [if_pos c6] at H
          have c6b0 : (a1 == 32) = true := beq_iff_eq.mpr c6
          have c6b1 : (a1 != 32) = false := bne_eq_false_iff_eq.mpr c6
          clear c6
          obtain rfl := Option.some.inj H
          go_enter Try.func20, Try.ntmps20
          go_wp2
          go_ret
          exact ⟨by first | rfl | (simp; done) | (simp [*]; done), by repeat (first | exact Drawn0.refl _ | apply Drawn0.step)⟩
        · rw [if_neg c6] at H
          have c6b0 : (a1 == 32) = false := beq_eq_false_iff_ne.mpr c6
          have c6b1 : (a1 != 32) = true := bne_iff_ne.mpr c6
          by_cases c7 : a1 = 64
          · rw [if_pos c7] at H
            have c7b0 : (a1 == 64) = true := beq_iff_eq.mpr c7
            have c7b1 : (a1 != 64) = false := bne_eq_false_iff_eq.mpr c7
            clear c7
            obtain rfl := Option.some.inj H
            go_enter Try.func20, Try.ntmps20
            go_wp2
            go_ret
            exact ⟨by first | rfl | (simp; done) | (simp [*]; done), by repeat (first | exact Drawn0.refl _ | apply Drawn0.step)⟩
          · rw [if_neg c7] at H
            have c7b0 : (a1 == 64) = false := beq_eq_false_iff_ne.mpr c7
            have c7b1 : (a1 != 64) = true := bne_iff_ne.mpr c7
            by_cases c8 : a1 = 128
            · rw [if_pos c8] at H
              have c8b0 : (a1 == 128) = true := beq_iff_eq.mpr c8
              have c8b1 : (a1 != 128) = false := bne_eq_false_iff_eq.mpr c8
              clear c8
              obtain rfl := Option.some.inj H
              go_enter Try.func20, Try.ntmps20
              go_wp2
              go_ret
              exact ⟨by first | rfl | (simp; done) | (simp [*]; done), by repeat (first | exact Drawn0.refl _ | apply Drawn0.step)⟩
            · rw [if_neg c8] at H
              have c8b0 : (a1 == 128) = false := beq_eq_false_iff_ne.mpr c8
              have c8b1 : (a1 != 128) = true := bne_iff_ne.mpr c8
              obtain rfl := Option.some.inj H
              go_enter Try.func20, Try.ntmps20
              go_wp2
              go_ret
              exact ⟨by first | rfl | (simp; done) | (simp [*]; done), by repeat (first | exact Drawn0.refl _ | apply Drawn0.step)⟩
    · rw [if_neg c4] at H
      have c4b0 : decide (a0 ≤ 4096) = false := decide_eq_false c4
      clear c4
      obtain rfl := Option.some.inj H
      go_enter Try.func20, Try.ntmps20
      go_wp2
      go_ret
      exact ⟨by first | rfl | (simp; done) | (simp [*]; done), by repeat (first | exact Drawn0.refl _ | apply Drawn0.step)⟩
  · rw [if_neg c3] at H
    have c3b0 : decide (0 ≤ a0) = false := decide_eq_false c3
    clear c3
    obtain rfl := Option.some.inj H
    go_enter Try.func20, Try.ntmps20
    go_wp2
    go_ret
    exact ⟨by first | rfl | (simp; done) | (simp [*]; done), by repeat (first | exact Drawn0.refl _ | apply Drawn0.step)⟩

/-! ### wire_Writer_Out: function 41 -/
theorem wire_Writer_Out.calls (S : Nat → Prop) (z : Bool) (h : Value) (l : List Int) (w : World) (hw : Wr w S z h l) (hl : l.length < 140737488355328) :
    Calls Try.prog 41 #[h] w fun e w' => ∃ v, e = .returned v ∧ Kd.R (Kd.int .u8) 5 w' w.heap.size (fun _ => True) v l ∧ Below w.heap.size w w' := by
  rcases hw with ⟨rfl, rfl, rfl⟩ | ⟨rfl, p, v, rfl, hp, hb, hR⟩
  · go_enter Try.func41, Try.ntmps41
    go_wp2
    go_ret
    exact ⟨_, rfl, Kd.R_nil _ _ _ _ _, Below.refl _ _⟩
  · have hcell : w.cell? ⟨p, 0, none⟩ = some v := by rw [cell_of hb]; rfl
    obtain ⟨A, c, rfl, -⟩ := Kd.R_reads hR
    have HC := Aside0.mk (Kd.R_reads' hR).2.2
    clear hb hR
    go_enter Try.func41, Try.ntmps41
    go_wp2_with fail
    refine (slices_Clone_byte_byte.own A c l _ HC.out hl).mono ?_
    rintro e w1 ⟨v, rfl, hv, hbl⟩
    obtain ⟨A1, c1, rfl, -⟩ := Kd.R_reads hv
    have HV := Aside0.mk hv
    have HB := Aside0.mk hbl
    clear hv hbl
    go_wp2
    go_ret
    exact ⟨_, rfl, HV.out, HB.out⟩

-- AUX rdr
/-- A struct that reads (type t, at p): what it has left. -/
structure Cur (t : Nat) (w : World) (S : Nat → Prop) (p : Nat) (A : Option Addr) (c : Nat) (l : List Int) (bad : Bool) : Prop where
  str : w.heap[p]? = some (.cells #[.slice A l.length c, .bool bad] t (0, 0))
  len : l.length ≤ c
  row : Rb w S A l
  ne : ¬ S p
  z : bad = true → l = []
  byt : ∀ x ∈ l, 0 ≤ x ∧ x < 256
/-- The row may be written. -/
def Nf (w : World) (A : Option Addr) (l : List Int) : Prop := 0 < l.length → ∀ a, A = some a → a.spot = none ∧ ∃ cs, w.heap[a.block]? = some (.cells cs 5 (0, 0))
theorem Nf.only {w w' : World} {S T : Nat → Prop} {A : Option Addr} {l : List Int} (h : Nf w A l) (r : Rb w S A l) (o : Only w w' T) (hd : ∀ i, S i → ¬ T i) : Nf w' A l := fun hp a ha => by
  obtain ⟨hs, cs, hc⟩ := h hp a ha
  exact ⟨hs, cs, o.same_block hc (hd _ (r.blk hp a ha))⟩
theorem Cur.only {t : Nat} {w w' : World} {S T : Nat → Prop} {p : Nat} {A : Option Addr} {c : Nat} {l : List Int} {bad : Bool} (x : Cur t w S p A c l bad) (o : Only w w' T) (hd : ∀ i, S i → ¬ T i) (hp : ¬ T p) : Cur t w' S p A c l bad :=
  ⟨o.same_block x.str hp, x.len, x.row.only o hd, x.ne, x.z, x.byt⟩
/-- A pointer's block. -/
def Pt (h : Value) : Nat → Prop := fun i => h = .pointer (some ⟨i, 0, none⟩)
/-- What a reader (h; nil: a bad one) has left, in blocks of S. -/
def Rd (w : World) (S : Nat → Prop) (h : Value) (l : List Int) (bad : Bool) : Prop :=
  (h = .pointer none ∧ l = [] ∧ bad = true) ∨ ∃ p A c, h = .pointer (some ⟨p, 0, none⟩) ∧ Cur 101 w S p A c l bad ∧ Nf w A l
theorem Rd.only {w w' : World} {S T : Nat → Prop} {h : Value} {l : List Int} {bad : Bool} (x : Rd w S h l bad) (o : Only w w' T) (hd : ∀ i, S i → ¬ T i) (hp : ∀ i, Pt h i → ¬ T i) : Rd w' S h l bad := by
  rcases x with x | ⟨p, A, c, rfl, x, y⟩
  · exact .inl x
  · exact .inr ⟨p, A, c, rfl, x.only o hd (hp p rfl), y.only x.row o hd⟩
theorem Rd.below {w w' : World} {S : Nat → Prop} {h : Value} {l : List Int} {bad : Bool} (x : Rd w S h l bad) (k : Below w.heap.size w w') : Rd w' S h l bad := x.only (Only.of_below k (fun _ => False)) (fun _ _ h => h) (fun _ _ h => h)
theorem Rd.byt {w : World} {S : Nat → Prop} {h : Value} {l : List Int} {bad : Bool} (x : Rd w S h l bad) : ∀ x ∈ l, 0 ≤ x ∧ x < 256 := by
  rcases x with ⟨_, rfl, _⟩ | ⟨p, A, c, rfl, x, y⟩
  · simp
  · exact x.byt
theorem Rd.z {w : World} {S : Nat → Prop} {h : Value} {l : List Int} {bad : Bool} (x : Rd w S h l bad) : bad = true → l = [] := by
  rcases x with ⟨_, rfl, _⟩ | ⟨p, A, c, rfl, x, y⟩
  · simp
  · exact x.z
theorem Rd.max {w : World} {S : Nat → Prop} {h : Value} {l : List Int} {bad : Bool} (x : Rd w S h l bad) : l.length ≤ 9223372036854775807 := by
  rcases x with ⟨_, rfl, _⟩ | ⟨p, A, c, rfl, x, y⟩
  · simp
  · exact x.row.row.2.1
/-- What a reading call leaves. -/
structure RdTo (w w' : World) (S : Nat → Prop) (h : Value) (l : List Int) (bad : Bool) : Prop where
  rd : Rd w' S h l bad
  only : Only w w' (Pt h)
theorem RdTo.then_ {w w1 w2 : World} {S : Nat → Prop} {h : Value} {l l2 : List Int} {bad bad2 : Bool} (x : RdTo w w1 S h l bad) (y : RdTo w1 w2 S h l2 bad2) : RdTo w w2 S h l2 bad2 := ⟨y.rd, x.only.same y.only⟩
theorem RdTo.refl {w : World} {S : Nat → Prop} {h : Value} {l : List Int} {bad : Bool} (x : Rd w S h l bad) : RdTo w w S h l bad := ⟨x, Only.refl _ _⟩
/-- The cells of a row may have changed, nothing else. -/
structure Seg (w w' : World) (A : Option Addr) (n : Nat) : Prop where
  os : w'.os = w.os
  tape : w'.tape = w.tape
  output : w'.output = w.output
  size : w'.heap.size = w.heap.size
  block : ∀ i, (0 < n → ∀ a, A = some a → i ≠ a.block) → w'.heap[i]? = w.heap[i]?
  cell : ∀ a, A = some a → ∀ p : Addr, p.block = a.block → (∀ j, j < n → p ≠ a.add j) → w'.cell? p = w.cell? p
  kind : ∀ a, A = some a → ∀ cs t, w.heap[a.block]? = some (.cells cs t (0, 0)) → ∃ cs', w'.heap[a.block]? = some (.cells cs' t (0, 0))
theorem Seg.refl (w : World) (A : Option Addr) (n : Nat) : Seg w w A n := ⟨rfl, rfl, rfl, rfl, fun _ _ => rfl, fun _ _ _ _ _ => rfl, fun _ _ cs t h => ⟨cs, h⟩⟩
theorem Seg.only {w w' : World} {S : Nat → Prop} {A : Option Addr} {l : List Int} (x : Seg w w' A l.length) (r : Rb w S A l) : Only w w' S :=
  ⟨x.os, x.tape, x.output, by rw [x.size]; exact Nat.le_refl _, fun i _ hn => x.block i (fun hp a ha e => by subst e; exact hn (r.blk hp a ha))⟩
/-- A reader whose row lies apart from n cells at A. -/
def RdX (w : World) (S : Nat → Prop) (h : Value) (l : List Int) (bad : Bool) (A : Option Addr) (n : Nat) : Prop :=
  (h = .pointer none ∧ l = [] ∧ bad = true) ∨ ∃ p A2 c, h = .pointer (some ⟨p, 0, none⟩) ∧ Cur 101 w S p A2 c l bad ∧ Nf w A2 l ∧ (0 < n → ∀ a, A = some a → p ≠ a.block) ∧ (∀ ad a, A2 = some ad → A = some a → ∀ i, i < n → ∀ j, j < l.length → ad.add j ≠ a.add i)
theorem RdX.rd {w : World} {S : Nat → Prop} {h : Value} {l : List Int} {bad : Bool} {A : Option Addr} {n : Nat} (x : RdX w S h l bad A n) : Rd w S h l bad := by
  rcases x with x | ⟨p, A2, c, rfl, x, y, _⟩
  · exact .inl x
  · exact .inr ⟨p, A2, c, rfl, x, y⟩
theorem RdX.only {w w' : World} {S T : Nat → Prop} {h : Value} {l : List Int} {bad : Bool} {A : Option Addr} {n : Nat} (x : RdX w S h l bad A n) (o : Only w w' T) (hd : ∀ i, S i → ¬ T i) (hp : ∀ i, Pt h i → ¬ T i) : RdX w' S h l bad A n := by
  rcases x with x | ⟨p, A2, c, rfl, x, y, z1, z2⟩
  · exact .inl x
  · exact .inr ⟨p, A2, c, rfl, x.only o hd (hp p rfl), y.only x.row o hd, z1, z2⟩
theorem RdX.seg {w w' : World} {S : Nat → Prop} {h : Value} {l : List Int} {bad : Bool} {A : Option Addr} {n : Nat} (x : RdX w S h l bad A n) (sg : Seg w w' A n) : Rd w' S h l bad := by
  rcases x with x | ⟨p, A2, c, rfl, x, y, z1, z2⟩
  · exact .inl x
  · refine .inr ⟨p, A2, c, rfl, ⟨(sg.block p z1).trans x.str, x.len, ⟨C_cells_mono x.row.row (fun ad j he hj => ?_), x.row.blk⟩, x.ne, x.z, x.byt⟩, fun hp a ha => ?_⟩
    · rcases A with _ | a0
      · exact cell_same (sg.block ad.block (fun _ a h => by cases h)) _ (add_blk ad j)
      · by_cases hb : ad.block = a0.block
        · exact sg.cell a0 rfl _ (by rw [add_blk]; exact hb) (fun i hi e => z2 ad a0 he rfl i hi j hj e)
        · exact cell_same (sg.block ad.block (fun _ a h => by cases h; exact hb)) _ (add_blk ad j)
    · obtain ⟨q1, cs, q2⟩ := y hp a ha
      refine ⟨q1, ?_⟩
      rcases A with _ | a0
      · exact ⟨cs, (sg.block a.block (fun _ a h => by cases h)).trans q2⟩
      · by_cases hb : a.block = a0.block
        · rw [hb] at q2 ⊢
          exact sg.kind a0 rfl cs _ q2
        · exact ⟨cs, (sg.block a.block (fun _ a h => by cases h; exact hb)).trans q2⟩
/-- The parts of a row: what is taken, and what is left. -/
def tkS (n : Int) (l : List Int) (bad : Bool) : Option (List Int × List Int) := if bad = false ∧ 0 ≤ n ∧ n ≤ l.length then some (l.take n.toNat, l.drop n.toNat) else none
theorem tkS_some {n : Int} {l b r : List Int} {bad : Bool} (h : tkS n l bad = some (b, r)) : bad = false ∧ 0 ≤ n ∧ n ≤ l.length ∧ b = l.take n.toNat ∧ r = l.drop n.toNat := by
  unfold tkS at h
  split at h
  · rename_i hc
    simp only [Option.some.injEq, Prod.mk.injEq] at h
    exact ⟨hc.1, hc.2.1, hc.2.2, h.1.symm, h.2.symm⟩
  · cases h
theorem tkS_none {n : Int} {l : List Int} {bad : Bool} (h : tkS n l bad = none) : bad = true ∨ n < 0 ∨ n > l.length := by
  unfold tkS at h
  split at h
  · cases h
  · rename_i hc
    cases bad
    · simp only [true_and] at hc
      omega
    · exact .inl rfl
def byteS (l : List Int) (bad : Bool) : Int × List Int × Bool := match tkS 1 l bad with
  | some (b, r) => (rd b 0, r, false)
  | none => (0, [], true)
def sumN (b : List Int) : Nat → Int
  | 0 => 0
  | k + 1 => sumN b k + rd b k * 2 ^ (8 * k)
def unL (b : List Int) : Int := wrap64 (sumN b 8)
def numS (l : List Int) (bad : Bool) : Int × List Int × Bool := match tkS 8 l bad with
  | some (b, r) => (unL b, r, false)
  | none => (0, [], true)
def flagS (l : List Int) (bad : Bool) : Bool × List Int × Bool := if (byteS l bad).1 > 1 then (false, [], true) else (decide ((byteS l bad).1 = 1), (byteS l bad).2.1, (byteS l bad).2.2)
def bytesS (l : List Int) (bad : Bool) : List Int × List Int × Bool := match tkS (numS l bad).1 (numS l bad).2.1 (numS l bad).2.2 with
  | some (b, r) => (b, r, false)
  | none => ([], [], true)
def numsR : Nat → List Int → Bool → List Int × List Int × Bool
  | 0, l, bad => ([], l, bad)
  | k + 1, l, bad => ((numsR k l bad).1 ++ [(numS (numsR k l bad).2.1 (numsR k l bad).2.2).1], (numS (numsR k l bad).2.1 (numsR k l bad).2.2).2)
def numsS (l : List Int) (bad : Bool) : List Int × List Int × Bool :=
  if (numS l bad).1 < 0 ∨ (numS l bad).1 > (numS l bad).2.1.length / 8 then ([], [], true) else numsR (numS l bad).1.toNat (numS l bad).2.1 (numS l bad).2.2

/-! ### wire_NewReader: function 43 -/
/-- A reader that was made. -/
structure RdNew (w w' : World) (h : Value) (l : List Int) : Prop where
  rd : Rd w' (fun i => w.heap.size ≤ i ∧ i < w'.heap.size ∧ ¬ Pt h i) h l false
  pt : ∀ i, Pt h i → w.heap.size ≤ i ∧ i < w'.heap.size
  below : Below w.heap.size w w'
theorem wire_NewReader.calls (A : Option Addr) (c : Nat) (l : List Int) (w : World) (hr : Kd.C (Kd.int .u8) w A l.length l) (hb : ∀ x ∈ l, 0 ≤ x ∧ x < 256) (hl : l.length < 140737488355328) :
    Calls Try.prog 43 #[.slice A l.length c] w fun e w' => ∃ p, e = .returned (.pointer (some ⟨p, 0, none⟩)) ∧ RdNew w w' (.pointer (some ⟨p, 0, none⟩)) l := by
  have HR := Aside0.mk hr
  have HBY := Aside0.mk hb
  clear hr hb
  go_enter Try.func43, Try.ntmps43
  go_wp2_with fail
  refine (slices_Clone_byte_byte.own A c l _ HR.out hl).mono ?_
  rintro e w1 ⟨v, rfl, hv, hbl⟩
  obtain ⟨A1, c1, rfl, -⟩ := Kd.R_reads hv
  have HV := Aside0.mk hv
  have HB := Aside0.mk hbl
  clear hv hbl
  go_wp2
  go_ret
  have hv := HV.out
  have hsz := HB.out.size
  obtain ⟨-, hlc, hC⟩ := Kd.R_reads' hv
  have hpt : ∀ i, Pt (.pointer (some ⟨w1.heap.size, 0, none⟩)) i → i = w1.heap.size := fun i hi => by
    have : w1.heap.size = i := by simpa [Pt] using hi
    exact this.symm
  refine ⟨w1.heap.size, rfl, .inr ⟨w1.heap.size, A1, c1, rfl, ⟨heap_alloc_new w1 _, hlc, ⟨Kd.C_alloc hC _, fun hp a ha => ?_⟩, fun hn => hn.2.2 rfl, (fun h => by cases h), HBY.out⟩, fun hp a ha => ?_⟩, fun i hi => ?_, below_alloc HB.out _⟩
  · have h1 := Kd.R_base hv a.block (by subst ha; rfl)
    have h2 := Kd.R_lt hv a.block (by subst ha; rfl)
    refine ⟨h1, by simp; omega, fun hq => ?_⟩
    have := hpt _ hq
    omega
  · obtain ⟨g, cap, e, _, hgl, cells, hg⟩ := Kd.R_form hv hp
    injection e with e1 _ _
    rw [e1] at ha
    cases ha
    exact ⟨rfl, cells, by simpa using (Below.heap_alloc w1 _ g hgl).trans hg⟩
  · have := hpt i hi
    subst this
    exact ⟨hsz, by simp⟩

-- AUX rm
/-- The document's reader at q: what it has left. -/
def Rm (w : World) (S : Nat → Prop) (q : Nat) (l : List Int) (bad : Bool) : Prop := ∃ A c, Cur 88 w S q A c l bad
theorem Rm.only {w w' : World} {S T : Nat → Prop} {q : Nat} {l : List Int} {bad : Bool} (x : Rm w S q l bad) (o : Only w w' T) (hd : ∀ i, S i → ¬ T i) (hp : ¬ T q) : Rm w' S q l bad := by
  obtain ⟨A, c, x⟩ := x
  exact ⟨A, c, x.only o hd hp⟩
theorem Rm.below {w w' : World} {S : Nat → Prop} {q : Nat} {l : List Int} {bad : Bool} (x : Rm w S q l bad) (k : Below w.heap.size w w') : Rm w' S q l bad := x.only (Only.of_below k (fun _ => False)) (fun _ _ h => h) (fun h => h)
theorem Rm.byt {w : World} {S : Nat → Prop} {q : Nat} {l : List Int} {bad : Bool} (x : Rm w S q l bad) : ∀ x ∈ l, 0 ≤ x ∧ x < 256 := by
  obtain ⟨A, c, x⟩ := x
  exact x.byt
theorem Rm.lt {w : World} {S : Nat → Prop} {q : Nat} {l : List Int} {bad : Bool} (x : Rm w S q l bad) : q < w.heap.size := by
  obtain ⟨A, c, x⟩ := x
  exact blk_size x.str
structure RmTo (w w' : World) (S : Nat → Prop) (q : Nat) (l : List Int) (bad : Bool) : Prop where
  rm : Rm w' S q l bad
  only : Only w w' (fun i => i = q)
theorem RmTo.then_ {w w1 w2 : World} {S : Nat → Prop} {q : Nat} {l l2 : List Int} {bad bad2 : Bool} (x : RmTo w w1 S q l bad) (y : RmTo w1 w2 S q l2 bad2) : RmTo w w2 S q l2 bad2 := ⟨y.rm, x.only.same y.only⟩
theorem RmTo.refl {w : World} {S : Nat → Prop} {q : Nat} {l : List Int} {bad : Bool} (x : Rm w S q l bad) : RmTo w w S q l bad := ⟨x, Only.refl _ _⟩
/-- The row goes on by m bytes. -/
theorem rm_cut {w w1 : World} {S : Nat → Prop} {q : Nat} {A : Option Addr} {c m : Nat} {l : List Int} {bad : Bool} (x : Cur 88 w S q A c l bad) (hm : m ≤ l.length) {A2 : Option Addr} (hA2 : A2 = if c = m then A else A.map (·.add m)) (k : Below w.heap.size w w1) :
    RmTo w (w1.setCell ⟨q, 0, none⟩ (.slice A2 (l.length - m) (c - m))) S q (l.drop m) bad := by
  have x1 := x.only (Only.of_below k (fun _ => False)) (fun _ _ h => h) (fun h => h)
  have o : Only w (w1.setCell ⟨q, 0, none⟩ (.slice A2 (l.length - m) (c - m))) (fun i => i = q) := (Only.of_below k (fun i => i = q)).setCell (p := ⟨q, 0, none⟩) (.inl rfl) _
  have o1 : Only w1 (w1.setCell ⟨q, 0, none⟩ (.slice A2 (l.length - m) (c - m))) (fun i => i = q) := (Only.refl w1 (fun i => i = q)).setCell (p := ⟨q, 0, none⟩) (.inl rfl) _
  have hS : ∀ i, S i → ¬ i = q := fun i hi he => by subst he; exact x.ne hi
  have e1 := setCell_here x1.str 0 (.slice A2 (l.length - m) (c - m))
  generalize w1.setCell ⟨q, 0, none⟩ (.slice A2 (l.length - m) (c - m)) = w2 at *
  have r1 := x1.row.only o1 hS
  have hld : (l.drop m).length = l.length - m := List.length_drop
  have hlen := x.len
  have rD : Rb w2 S A2 (l.drop m) := by
    subst hA2
    have := Kd.C_drop (m := m) r1.row hm x.len
    refine ⟨by simpa [Kd.int, Kd.scalar] using this, fun hp a ha => ?_⟩
    rw [if_neg (by omega)] at ha
    rcases A with _ | a0
    · cases ha
    · simp only [Option.map_some, Option.some.injEq] at ha
      subst ha
      rw [add_blk]
      exact r1.blk (by omega) a0 rfl
  refine ⟨⟨A2, c - m, by rw [hld]; exact e1, by omega, rD, x.ne, fun hb => ?_, fun z hz => x.byt z (List.mem_of_mem_drop hz)⟩, o⟩
  have := x.z hb
  subst this
  simp

-- AUX segw
theorem add_at (a : Addr) (hs : a.spot = none) (k : Nat) : a.add k = ⟨a.block, a.off + k, none⟩ := by
  obtain ⟨b, o, s⟩ := a
  simp only at hs
  subst hs
  unfold Addr.add
  split <;> simp_all
theorem setCell_cell_ne {w : World} {b o : Nat} {u : Value} {cs : Array Value} {t : Nat} (hb : w.heap[b]? = some (.cells cs t (0, 0))) (p : Addr) (hp : p ≠ ⟨b, o, none⟩) : (w.setCell ⟨b, o, none⟩ u).cell? p = w.cell? p := by
  by_cases e : p.block = b
  · have h1 := setCell_here hb o u
    obtain ⟨pb, po, ps⟩ := p
    simp only at e
    subst e
    simp only [World.cell?, h1, hb]
    rcases ps with _ | s
    · have : po ≠ o := fun h => hp (by rw [h])
      simp [Array.getElem?_setIfInBounds, Ne.symm this]
    · rfl
  · exact cell_same (Below.heap_setCell w ⟨b, o, none⟩ u p.block e) p rfl
theorem Seg.set {w w' : World} {ad : Addr} {n k : Nat} (x : Seg w w' (some ad) n) (hs : ad.spot = none) (hk : k < n) {cs : Array Value} {t : Nat} (hb : w.heap[ad.block]? = some (.cells cs t (0, 0))) (u : Value) : Seg w (w'.setCell (ad.add k) u) (some ad) n := by
  obtain ⟨cs', hb'⟩ := x.kind ad rfl cs t hb
  rw [add_at ad hs]
  refine ⟨x.os, x.tape, x.output, by simp only [World.setCell, Array.size_modify]; exact x.size, fun i hi => ?_, fun a ha p hp hne => ?_, fun a ha cs0 t0 h0 => ?_⟩
  · exact (Below.heap_setCell w' ⟨ad.block, ad.off + k, none⟩ u i (hi (by omega) ad rfl)).trans (x.block i hi)
  · cases ha
    rw [setCell_cell_ne hb' p (by rw [← add_at ad hs]; exact hne k hk)]
    exact x.cell ad rfl p hp hne
  · cases ha
    rw [hb] at h0
    injection h0 with h0
    injection h0 with _ h2 _
    subst h2
    exact ⟨_, setCell_here hb' _ u⟩

/-! ### wire_Reader_fail: function 65 -/
theorem wire_Reader_fail.calls (S : Nat → Prop) (p : Nat) (A : Option Addr) (c : Nat) (l : List Int) (bad : Bool) (w : World) (hr : Cur 101 w S p A c l bad) :
    Calls Try.prog 65 #[.pointer (some ⟨p, 0, none⟩)] w fun e w' => e = .returned (.tuple #[]) ∧ RdTo w w' S (.pointer (some ⟨p, 0, none⟩)) [] true := by
  have hb := hr.str
  have h0 : w.cell? ⟨p, 0, none⟩ = some (.slice A l.length c) := by rw [cell_of hb]; rfl
  have h1 : w.cell? ⟨p, 1, none⟩ = some (.bool bad) := by rw [cell_of hb]; rfl
  have f0 := frozen_of hb 0
  have f1 := frozen_of hb 1
  have HB := Aside0.mk hb
  have hne := hr.ne
  clear hr hb
  go_enter Try.func65, Try.ntmps65
  go_wp2
  go_end0
  have e1 := setCell_here HB.out 0 (.slice none 0 0)
  have e2 := setCell_here e1 1 (.bool true)
  refine ⟨rfl, .inr ⟨p, none, 0, rfl, ⟨e2, by simp, ⟨Kd.C_nil _ _, fun h => absurd h (by simp)⟩, hne, fun _ => rfl, by simp⟩, fun h => absurd h (by simp)⟩, ?_⟩
  exact ((Only.refl w _).setCell (p := ⟨p, 0, none⟩) (.inl (show Pt _ p from rfl)) _).setCell (p := ⟨p, 1, none⟩) (.inl (show Pt _ p from rfl)) _

-- AUX tookw
/-- What a taking leaves: the row taken (b, at A), the rest, which stays where b is written over. -/
structure TookTo (w w' : World) (S : Nat → Prop) (h : Value) (A : Option Addr) (b r : List Int) : Prop where
  row : Rb w' S A b
  nf : Nf w' A b
  rdto : RdTo w w' S h r false
  stab : RdX w' S h r false A b.length
theorem add_add (a : Addr) (hs : a.spot = none) (i j : Nat) : (a.add i).add j = a.add (i + j) := by
  obtain ⟨b, o, s⟩ := a
  simp only at hs
  subst hs
  rw [show (⟨b, o, none⟩ : Addr).add i = ⟨b, o + i, none⟩ by unfold Addr.add; split <;> simp_all]
  rw [show (⟨b, o + i, none⟩ : Addr).add j = ⟨b, o + i + j, none⟩ by unfold Addr.add; split <;> simp_all]
  rw [show (⟨b, o, none⟩ : Addr).add (i + j) = ⟨b, o + (i + j), none⟩ by unfold Addr.add; split <;> simp_all]
  rw [Nat.add_assoc]
theorem add_inj (a : Addr) (hs : a.spot = none) (i j : Nat) (h : a.add i = a.add j) : i = j := by
  obtain ⟨b, o, s⟩ := a
  simp only at hs
  subst hs
  rw [show (⟨b, o, none⟩ : Addr).add i = ⟨b, o + i, none⟩ by unfold Addr.add; split <;> simp_all, show (⟨b, o, none⟩ : Addr).add j = ⟨b, o + j, none⟩ by unfold Addr.add; split <;> simp_all] at h
  injection h with _ h _
  omega
theorem add_spot (a : Addr) (hs : a.spot = none) (i : Nat) : (a.add i).spot = none := by
  obtain ⟨b, o, s⟩ := a
  simp only at hs
  subst hs
  rw [show (⟨b, o, none⟩ : Addr).add i = ⟨b, o + i, none⟩ by unfold Addr.add; split <;> simp_all]
theorem took_of {w : World} {S : Nat → Prop} {p : Nat} {A : Option Addr} {c m : Nat} {l : List Int} (x : Cur 101 w S p A c l false) (y : Nf w A l) (hm : m ≤ l.length) {A2 : Option Addr} (hA2 : A2 = if c = m then A else A.map (·.add m)) :
    TookTo w (w.setCell ⟨p, 0, none⟩ (.slice A2 (l.length - m) (c - m))) S (.pointer (some ⟨p, 0, none⟩)) A (l.take m) (l.drop m) := by
  have o : Only w (w.setCell ⟨p, 0, none⟩ (.slice A2 (l.length - m) (c - m))) (Pt (.pointer (some ⟨p, 0, none⟩))) := (Only.refl w _).setCell (p := ⟨p, 0, none⟩) (.inl (show Pt _ p from rfl)) _
  have hS : ∀ i, S i → ¬ Pt (.pointer (some ⟨p, 0, none⟩)) i := fun i hi he => by
    have : p = i := by simpa [Pt] using he
    subst this
    exact x.ne hi
  have e1 := setCell_here x.str 0 (.slice A2 (l.length - m) (c - m))
  generalize w.setCell ⟨p, 0, none⟩ (.slice A2 (l.length - m) (c - m)) = w1 at *
  have r1 := x.row.only o hS
  have n1 := y.only x.row o hS
  have hlt : (l.take m).length = m := by rw [List.length_take]; omega
  have hld : (l.drop m).length = l.length - m := List.length_drop
  have hlen := x.len
  have rT : Rb w1 S A (l.take m) := ⟨by have := Kd.C_take (m := m) r1.row hm; exact this, fun hp a ha => r1.blk (by omega) a ha⟩
  have rD : Rb w1 S A2 (l.drop m) := by
    subst hA2
    have := Kd.C_drop (m := m) r1.row hm x.len
    refine ⟨by simpa [Kd.int, Kd.scalar] using this, fun hp a ha => ?_⟩
    rw [if_neg (by omega)] at ha
    rcases A with _ | a0
    · cases ha
    · simp only [Option.map_some, Option.some.injEq] at ha
      subst ha
      rw [add_blk]
      exact r1.blk (by omega) a0 rfl
  have nD : Nf w1 A2 (l.drop m) := fun hp a ha => by
    subst hA2
    rw [if_neg (by omega)] at ha
    rcases A with _ | a0
    · cases ha
    · simp only [Option.map_some, Option.some.injEq] at ha
      subst ha
      obtain ⟨q1, q2⟩ := n1 (by omega) a0 rfl
      exact ⟨add_spot a0 q1 m, by rw [add_blk]; exact q2⟩
  have str1 : w1.heap[p]? = some (.cells #[.slice A2 (l.drop m).length (c - m), .bool false] 101 (0, 0)) := by rw [hld]; exact e1
  have byt1 : ∀ x ∈ l.drop m, 0 ≤ x ∧ x < 256 := fun z hz => x.byt z (List.mem_of_mem_drop hz)
  refine ⟨rT, fun hp a ha => n1 (by omega) a ha, ⟨.inr ⟨p, A2, c - m, rfl, ⟨str1, by omega, rD, x.ne, fun h => (by cases h), byt1⟩, nD⟩, o⟩, .inr ⟨p, A2, c - m, rfl, ⟨str1, by omega, rD, x.ne, fun h => (by cases h), byt1⟩, nD, fun hp a ha e => x.ne (by rw [e]; exact rT.blk hp a ha), fun ad a he ha i hi j hj e => ?_⟩⟩
  have hA := hA2
  rw [if_neg (by omega), ha, he] at hA
  simp only [Option.map_some, Option.some.injEq] at hA
  subst hA
  obtain ⟨q1, q2⟩ := n1 (by omega) a ha
  rw [add_add a q1] at e
  have := add_inj a q1 _ _ e
  omega

-- AUX orw
theorem sumN_bd (b : List Int) (hb : ∀ x ∈ b, 0 ≤ x ∧ x < 256) (k : Nat) : 0 ≤ sumN b k ∧ sumN b k < 2 ^ (8 * k) := by
  induction k with
  | zero => simp [sumN]
  | succ k ih =>
    have hr : 0 ≤ rd b k ∧ rd b k < 256 := by
      unfold rd
      rw [Int.toNat_natCast, List.getD_eq_getElem?_getD]
      by_cases h : k < b.length
      · simp only [List.getElem?_eq_getElem h, Option.getD_some]
        exact hb _ (List.getElem_mem h)
      · simp [List.getElem?_eq_none (Nat.le_of_not_lt h)]
    have hp : (2 : Int) ^ (8 * (k + 1)) = 256 * 2 ^ (8 * k) := by
      rw [show 8 * (k + 1) = 8 + 8 * k by omega, Int.pow_add]; rfl
    have h0 : (0 : Int) < 2 ^ (8 * k) := Int.pow_pos (by decide)
    unfold sumN
    rw [hp]
    generalize (2 : Int) ^ (8 * k) = P at *
    generalize rd b k = c at *
    refine ⟨Int.add_nonneg ih.1 (Int.mul_nonneg hr.1 (by omega)), ?_⟩
    have : c * P ≤ 255 * P := Int.mul_le_mul_of_nonneg_right (by omega) (by omega)
    omega
/-- A byte is put above what is there. -/
theorem or_step (s c : Int) (k : Nat) (hk : k < 8) (h0 : 0 ≤ s) (h1 : s < 2 ^ (8 * k)) (c0 : 0 ≤ c) (c1 : c < 256) : bits .or .i64 s (IntKind.i64.wrap (c * 2 ^ (8 * k))) = IntKind.i64.wrap (s + c * 2 ^ (8 * k)) := by
  have hw : ∀ x : Int, BitVec.ofInt 64 (IntKind.i64.wrap x) = BitVec.ofInt 64 x := by
    intro x
    apply BitVec.eq_of_toInt_eq
    rw [BitVec.toInt_ofInt, BitVec.toInt_ofInt]
    simp only [IntKind.wrap, IntKind.bits, IntKind.signed, Int.bmod]
    simp
    split <;> split <;> split <;> omega
  show IntKind.i64.wrap (((BitVec.ofInt 64 s ||| BitVec.ofInt 64 (IntKind.i64.wrap (c * 2 ^ (8 * k)))).toNat : Nat) : Int) = _
  rw [hw]
  obtain ⟨S, rfl⟩ := Int.eq_ofNat_of_zero_le h0
  obtain ⟨C, rfl⟩ := Int.eq_ofNat_of_zero_le c0
  have hS : S < 2 ^ (8 * k) := by exact_mod_cast h1
  have hC : C < 256 := by omega
  have e1 : ((C : Int) * 2 ^ (8 * k)) = ((C * 2 ^ (8 * k) : Nat) : Int) := by push_cast; rfl
  have hp : 2 ^ (8 * k) * 256 ≤ 2 ^ 64 := by
    rw [show (256 : Nat) = 2 ^ 8 by rfl, ← Nat.pow_add]
    exact Nat.pow_le_pow_right (by decide) (by omega)
  have hCP : C * 2 ^ (8 * k) ≤ 255 * 2 ^ (8 * k) := Nat.mul_le_mul_right _ (by omega)
  rw [e1, BitVec.ofInt_natCast, BitVec.ofInt_natCast, BitVec.toNat_or, BitVec.toNat_ofNat, BitVec.toNat_ofNat, Nat.mod_eq_of_lt (by omega), Nat.mod_eq_of_lt (by omega), Nat.or_comm, nat_join (8 * k) _ _ (by simp) hS]
  congr 1
  push_cast
  omega
theorem wrap_i64 (n : Int) : IntKind.i64.wrap n = wrap64 n := by
  simp only [IntKind.wrap, IntKind.bits, IntKind.signed, wrap64]
  simp
  split <;> omega
def accN (b : List Int) (k : Nat) : Int := wrap64 (sumN b k)
theorem accN_zero (b : List Int) : accN b 0 = 0 := by simp [accN, sumN, wrap64]
theorem rd_bd {b : List Int} (hb : ∀ x ∈ b, 0 ≤ x ∧ x < 256) (k : Nat) (h : k < b.length) : 0 ≤ rd b k ∧ rd b k < 256 := by
  unfold rd
  rw [Int.toNat_natCast, List.getD_eq_getElem?_getD, List.getElem?_eq_getElem h, Option.getD_some]
  exact hb _ (List.getElem_mem h)
theorem accN_small (b : List Int) (hb : ∀ x ∈ b, 0 ≤ x ∧ x < 256) (k : Nat) (hk : k < 8) : accN b k = sumN b k := by
  have h := sumN_bd b hb k
  have hp : (2 : Int) ^ (8 * k) ≤ 2 ^ 56 := by
    have := Nat.pow_le_pow_right (n := 2) (by decide) (show 8 * k ≤ 56 by omega)
    exact_mod_cast this
  have : (2 : Int) ^ 56 = 72057594037927936 := by decide
  unfold accN wrap64
  omega
theorem accN_step (b : List Int) (hb : ∀ x ∈ b, 0 ≤ x ∧ x < 256) (k : Nat) (hk : k < 8) (hl : k < b.length) : bits .or .i64 (accN b k) (wrap64 (rd b k * 2 ^ (8 * k))) = accN b (k + 1) := by
  have h := sumN_bd b hb k
  have hr : 0 ≤ rd b k ∧ rd b k < 256 := by
    unfold rd
    rw [Int.toNat_natCast, List.getD_eq_getElem?_getD, List.getElem?_eq_getElem hl, Option.getD_some]
    exact hb _ (List.getElem_mem hl)
  rw [← wrap_i64, accN_small b hb k hk, or_step _ _ k hk h.1 h.2 hr.1 hr.2, wrap_i64]
  rfl

/-! ### laminanum_Over: function 21 -/
theorem laminanum_Over.seg (S : Nat → Prop) (A : Option Addr) (c : Nat) (l : List Int) (w : World) (hr : Rb w S A l) (hn : Nf w A l) :
    Calls Try.prog 21 #[.slice A l.length c] w fun e w' => e = .returned (.tuple #[]) ∧ Seg w w' A l.length := by
  have hm := hr.row.2.1
  have HR := Aside0.mk hr
  have HN := Aside0.mk hn
  clear hr hn
  go_enter Try.func21, Try.ntmps21
  go_wp2
  go_loopw [2, 5] (fun _ v5 wr => ∃ k : Nat, k ≤ l.length ∧ v5 = .int .i64 k ∧ Aside0 (Seg w wr A l.length) ∧ Aside0 (∀ ad, A = some ad → ∀ j, k ≤ j → j < l.length → wr.cell? (ad.add j) = w.cell? (ad.add j))) (fun _ v5 _ => l.length - (intOf v5).toNat)
  case atStart => exact ⟨0, by omega, rfl, ⟨Seg.refl _ _ _⟩, ⟨fun _ _ _ _ _ => rfl⟩⟩
  case round =>
    obtain ⟨k, hk, rfl, HS, HC⟩ := hrel
    by_cases hlt : k < l.length
    · obtain ⟨ad, e, hx⟩ := C_cells HR.out.row (by omega)
      subst e
      obtain ⟨hs, cs, hb⟩ := HN.out (by omega) ad rfl
      obtain ⟨cs', hb'⟩ := HS.out.kind ad rfl cs _ hb
      have hc := (HC.out ad rfl k (Nat.le_refl _) hlt).trans (hx k hlt)
      have hf : wr.frozen? (ad.add k) = false := by rw [add_at ad hs]; exact frozen_of hb' _
      have HB := Aside0.mk hb
      have HB' := Aside0.mk hb'
      have HSP := Aside0.mk hs
      clear hb hb' hx hs
      go_wp2
      refine ⟨⟨k + 1, by omega, by go_num, ⟨HS.out.set HSP.out hlt HB.out _⟩, ⟨fun a ha j h1 h2 => ?_⟩⟩, by simp [intOf]; omega⟩
      cases ha
      rw [add_at ad HSP.out k, setCell_cell_ne HB'.out _ (by rw [← add_at ad HSP.out k]; intro h; have := add_inj ad HSP.out _ _ h; omega)]
      exact HC.out ad rfl j (by omega) h2
    · obtain rfl : k = l.length := by omega
      go_wp2
      go_end0
      exact ⟨rfl, HS.out⟩

end Go.Proofs.Ytdehifinipmmcaa.Hp
