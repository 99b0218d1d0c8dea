/- Contracts of functions of the given program, and what they lean on: written by this session's own program, out of hand texts laid into the kit's printer. -/
import Derived.Test.YtjoledofiindcaaHp0
import Derived.Test.YtjoledofiindcaaHg1
import Derived.Test.YtjoledofiindcaaHg2
import Derived.Test.YtjoledofiindcaaHg3
import Derived.Test.YtjoledofiindcaaHg4
import Derived.Test.YtjoledofiindcaaHg5
namespace Go.Proofs.Ytjoledofiindcaa.Hp
open Go.RowKit Go.Proofs.YtjoledofiindcaaW.PrintWords Go.Proofs.YtjoledofiindcaaW.PrintLast Go.Proofs.YtjoledofiindcaaW.PrintMore
attribute [local go_sem] max2_int min2_int max_two min_two max_three min_three max_four min_four   -- for this text's walks alone
set_option linter.unusedVariables false
set_option linter.unusedSimpArgs false

/-! ### laminalaw02_DiskArmed: function 5 -/
-- needs: do_calls act_good act_cnt rf_new Rel.new RfAt dk_new dk_arm dk_crash dk_flush dk_steps dk_down rangeAt_blk Rf.new
/-- The disk of this law ahead of act k: it is armed. -/
def ArmOk (a : Int) (k : Nat) (d : Dk) : Prop := d.armed = true ∧ 0 ≤ d.left ∧ d.steps + d.left = a ∧ 0 ≤ d.steps ∧ (d.gone = true → d.left = 0) ∧ d.size = 6 ∧ d.cnt + d.waiting.length ≤ k
theorem ArmOk.step {a : Int} {k : Nat} {d : Dk} (h : ArmOk a k d) (ha : a ≤ 9223372036854775807) : ArmOk a k d.step ∧ (d.gone = true → d.step.steps = d.steps) := by
  obtain ⟨h1, h2, h3, h4, h5, h6, h7⟩ := h
  unfold Dk.step Dk.off
  by_cases hg : d.gone = true
  · rw [if_pos (by simp [hg])]
    exact ⟨⟨h1, h2, h3, h4, fun _ => h5 hg, h6, h7⟩, fun _ => rfl⟩
  · by_cases hl : d.left = 0
    · rw [if_pos (by simp [h1, hl])]
      exact ⟨⟨h1, h2, h3, h4, fun _ => hl, h6, h7⟩, fun h => absurd h hg⟩
    · rw [if_neg (by simp [hg, hl])]
      have e1 : wrap64 (d.left - 1) = d.left - 1 := by unfold wrap64; omega
      have e2 : wrap64 (d.steps + 1) = d.steps + 1 := by unfold wrap64; omega
      rw [e1, e2]
      refine ⟨⟨h1, ?_, ?_, ?_, fun h => absurd h hg, h6, h7⟩, fun h => absurd h hg⟩ <;> dsimp only <;> omega
theorem ArmOk.act {a : Int} {k : Nat} {d : Dk} (h : ArmOk a k d) (ha : a ≤ 9223372036854775807) (o : S36) (n4 : o.f0 ≠ 4) (n5 : o.f0 ≠ 5) : ArmOk a (k + 1) (actD d o) ∧ (d.gone = true → (actD d o).steps = d.steps) := by
  have hc := act_cnt d o
  have hs := h.step ha
  obtain ⟨⟨s1, s2, s3, s4, s5, s6, s7⟩, s8⟩ := hs
  obtain ⟨h1, h2, h3, h4, h5, h6, h7⟩ := h
  have hk : (actD d o).cnt + (actD d o).waiting.length ≤ k + 1 := Nat.le_trans hc (by omega)
  clear hc
  revert hk
  unfold actD
  by_cases c1 : o.f0 = 1
  · rw [if_pos c1]
    unfold Dk.write
    split
    · split
      · exact fun hk => ⟨⟨s1, s2, s3, s4, s5, s6, hk⟩, s8⟩
      · exact fun hk => ⟨⟨s1, s2, s3, s4, s5, s6, hk⟩, s8⟩
    · exact fun hk => ⟨⟨h1, h2, h3, h4, h5, h6, hk⟩, fun _ => rfl⟩
  · rw [if_neg c1]
    by_cases c2 : o.f0 = 2
    · rw [if_pos c2]
      unfold Dk.flush
      split
      · exact fun hk => ⟨⟨s1, s2, s3, s4, s5, s6, hk⟩, s8⟩
      · exact fun hk => ⟨⟨s1, s2, s3, s4, s5, s6, hk⟩, s8⟩
    · rw [if_neg c2, if_neg n4, if_neg n5]
      exact fun hk => ⟨⟨h1, h2, h3, h4, h5, h6, hk⟩, fun _ => rfl⟩
theorem ArmOk.mono {a : Int} {k : Nat} {d : Dk} (h : ArmOk a k d) : ArmOk a (k + 1) d := ⟨h.1, h.2.1, h.2.2.1, h.2.2.2.1, h.2.2.2.2.1, h.2.2.2.2.2.1, Nat.le_succ_of_le h.2.2.2.2.2.2⟩
theorem op_info : (Try.prog.info? 36).map (·.size) = some 4 := by kernel_rfl
set_option maxRecDepth 100000 in
set_option maxHeartbeats 8000000 in
theorem laminalaw02_DiskArmed.law (a0 : Int) (A0 : Option Addr) (c0 : Nat) (l0 : List S36) (w : World) (_hw0 : (Lit.int .i64 a0).wf = true) (hr0 : Kd.C k36 w A0 l0.length l0) (hc0 : l0.length ≤ c0) (_hy0 : l0.length * 48 ≤ 140737488351232) (hg : laminalaw02_full.OpsOk l0) :
    Calls Try.prog 5 #[.int .i64 a0, .slice A0 l0.length c0] w fun e w' => e = .returned (.bool true) ∧ Below w.heap.size w w' := by
  have hz := dk_zero
  have h26 := Try.underlying26
  have h28 := Try.underlying28
  have hu36 := Try.underlying36
  have hu50 := Try.underlying50
  have H0 := Cx.start w
  have HR0 := Aside0.mk hr0
  have HC0 := Aside0.mk hc0
  have HG := Aside0.mk hg
  have ha : a0 ≤ 9223372036854775807 := by
    have h := _hw0
    simp [Lit.wf, IntKind.min, IntKind.max, IntKind.signed, IntKind.bits] at h
    omega
  have HA := Aside0.mk ha
  clear hr0 hc0 hg ha
  go_enter Try.func5, Try.ntmps5
  go_wp2_with fail
  refine (laminalaw02_alive.calls w).mono ?_
  rintro e w1 ⟨rfl, hb⟩
  have H1 := H0.below hb
  clear H0 hb
  go_wp2_with fail
  refine (laminalaw02_full.long_calls A0 c0 l0 _ (Kd.C_below HR0.out H1.bel) HC0.out).mono ?_
  rintro e w2 ⟨r, rfl, hp, hb⟩
  have H2 := H1.below hb
  clear H1 hb
  cases r
  case true =>
    go_wp2
    ((try simp only [Exit.inBlock, Exit.then]); (apply Cx.atPost); (focus ((repeat (with_reducible (first | exact (H2).toS | exact At.here | apply At.there | apply CxS.drewN | apply CxS.drew | apply CxS.alloc | apply CxS.set | apply CxS.setRow))))); intro H3)
    go_ret
    exact ⟨by first | rfl | trivial, H3.bel⟩
  have hlen := (hp rfl).1
  clear hp
  by_cases hneg : a0 < 0
  · go_wp2
    ((try simp only [Exit.inBlock, Exit.then]); (apply Cx.atPost); (focus ((repeat (with_reducible (first | exact (H2).toS | exact At.here | apply At.there | apply CxS.drewN | apply CxS.drew | apply CxS.alloc | apply CxS.set | apply CxS.setRow))))); intro H3)
    go_ret
    exact ⟨by first | rfl | trivial, H3.bel⟩
  go_wp2_with fail
  refine (dk_new 6 H2 (by decide)).mono ?_
  rintro e w3 ⟨b, rfl, H3⟩
  clear H2
  go_wp2_with (go_at_call 20; (with_reducible refine (dk_arm (d := Dk.new 6) a0 H3 (by repeat (with_reducible (first | exact At.here | apply At.there)))).mono ?_); rintro e w4 ⟨rfl, H4⟩; clear H3; rw [if_neg (by omega), errW_none])
  have hda : (Dk.new 6).arm a0 = { Dk.new 6 with armed := true, left := a0 } := if_neg (by omega)
  rw [hda] at H4
  have HOK0 : Aside0 (ArmOk a0 0 { Dk.new 6 with armed := true, left := a0 }) := ⟨rfl, by dsimp only; omega, by simp [Dk.new], by simp [Dk.new], (fun h => by cases h), rfl, Nat.le_refl _⟩
  clear hda
  generalize ({ Dk.new 6 with armed := true, left := a0 } : Dk) = d0 at H4 HOK0
  go_loopw [33] (fun v33 wr => ∃ (k : Nat) (d : Dk), k ≤ l0.length ∧ v33 = .int .i64 k ∧ Aside0 (ArmOk a0 k d) ∧ Cx w.heap.size w wr [.own dkR (.pointer (some ⟨b, 0, none⟩)) d]) (fun v33 _ => l0.length - (intOf v33).toNat)
  case atStart => exact ⟨0, d0, by omega, rfl, HOK0, H4⟩
  case round =>
    clear H4 HOK0
    obtain ⟨k, d, hk, rfl, HOK, H6⟩ := hrel
    by_cases hlt : k < l0.length
    · have h0 : (0 : Int) ≤ (k : Int) := by omega
      have h1 : (k : Int) < (l0.length : Int) := by omega
      obtain ⟨ad, A3, c3, rfl, t0, t1, t2, t3, hl3, g3⟩ := at_T36 HR0.out (k : Int) h0 h1
      obtain ⟨hf0, hf1, hmem⟩ := laminalaw02_full.ok_at HG.out k hlt
      replace t0 := (H6.bel.cell (World.block_lt_of_cell? w _ t0)).trans t0
      replace t1 := (H6.bel.cell (World.block_lt_of_cell? w _ t1)).trans t1
      replace t2 := (H6.bel.cell (World.block_lt_of_cell? w _ t2)).trans t2
      replace t3 := (H6.bel.cell (World.block_lt_of_cell? w _ t3)).trans t3
      simp only [Int.toNat_natCast] at t0 t1 t2 t3
      obtain ⟨o, hx⟩ : ∃ o, o = rd_T36 l0 (k : Int) := ⟨_, rfl⟩
      rw [← hx] at t0 t1 t2 t3 hf0 hf1 g3
      have HF1 := Aside0.mk hf1
      have HG3 := Aside0.mk g3
      clear hx hmem hl3 g3 hf0 hf1
      by_cases hk4 : o.f0 = 4
      · have hb4 : (o.f0 == 4) = true := by simp [hk4]
        clear hk4
        go_wp2_with fail
        have H7 := (H6.toS.alloc (.cells #[.int .i64 o.f0, .int .i64 o.f1, .int .u8 o.f2, .slice A3 o.f3.length c3] 36 (0, 0))).cx
        exact ⟨⟨k + 1, d, by omega, by go_num, ⟨HOK.out.mono⟩, H7.tail⟩, by simp [intOf]; omega⟩
      have hb4 : (o.f0 == 4) = false := by simp [hk4]
      by_cases hk5 : o.f0 = 5
      · have hb5 : (o.f0 == 5) = true := by simp [hk5]
        clear hk4 hk5
        go_wp2_with fail
        have H7 := (H6.toS.alloc (.cells #[.int .i64 o.f0, .int .i64 o.f1, .int .u8 o.f2, .slice A3 o.f3.length c3] 36 (0, 0))).cx
        exact ⟨⟨k + 1, d, by omega, by go_num, ⟨HOK.out.mono⟩, H7.tail⟩, by simp [intOf]; omega⟩
      have hb5 : (o.f0 == 5) = false := by simp [hk5]
      have HK4 := Aside0.mk hk4
      have HK5 := Aside0.mk hk5
      clear hk4 hk5
      go_wp2_with fail
      ((first | apply Cx.genCall | apply Cx.genCode | apply Cx.genList); (focus ((repeat (with_reducible (first | exact (H6).toS | exact At.here | apply At.there | apply CxS.drewN | apply CxS.drew | apply CxS.alloc | apply CxS.set | apply CxS.setRow))))); clear H6; intro wc H7)
      (try simp only [List.setIfInBounds_toArray, List.set_cons_zero, List.set_cons_succ] at H7)
      clear t0 t1 t2 t3
      generalize wr.heap.size = g8 at *
      refine (dk_down (d := d) H7 (by repeat (with_reducible (first | exact At.here | apply At.there)))).mono ?_
      rintro e w' ⟨rfl, rfl⟩
      obtain ⟨gd, hgd⟩ : ∃ gd, gd = d.gone := ⟨_, rfl⟩
      rw [← hgd]
      have HGD := Aside0.mk hgd
      clear hgd
      go_wp2_with fail
      refine (dk_steps (d := d) H7 (by repeat (with_reducible (first | exact At.here | apply At.there)))).mono ?_
      rintro e w' ⟨rfl, rfl⟩
      obtain ⟨s1, hs1⟩ : ∃ s1, s1 = d.steps := ⟨_, rfl⟩
      rw [← hs1]
      have HS1 := Aside0.mk hs1
      clear hs1
      go_wp2_with fail
      have Hx := (H7.toS.drew).cx
      clear H7
      refine wp_region_held_drew (S := fun W => W.heap[g8]? = some (.cells #[.int .i64 o.f0, .int .i64 o.f1, .int .u8 o.f2, .slice A3 o.f3.length c3] 36 (0, 0))) (by kernel_rfl) (Hx.blk (by repeat (with_reducible (first | exact At.here | apply At.there)))) (fun hH_ => ?_)
      (refine wpAnyH_take (i := 0) (v := ?_) rfl (by kernel_rfl) (by kernel_rfl) (by kernel_rfl) (fun _ _ _ h => h) (Or.inl ⟨by rfl, ?_⟩) hH_ ?_; rotate_left; (focus (intro w_ hSw_; go_simp; try (with_reducible rfl))); simp only [List.getElem_toArray, List.getElem_cons_succ, List.getElem_cons_zero, Act.put, List.setIfInBounds_toArray, List.set_cons_zero, List.set_cons_succ])
      (refine wpAnyH_take (i := 2) rfl (by kernel_rfl) (by kernel_rfl) (by kernel_rfl) (fun _ _ _ h => h) (yieldsIf_load_mid (by rfl) 36 (.tmp 8) rfl (g8) (0) rfl ([.int .i64 o.f0, .int .i64 o.f1, .int .u8 o.f2, .slice A3 o.f3.length c3]) _ (fun W h => rangeAt_blk h) Try.underlying36 rfl (op_info)) hH_ ?_; simp only [List.getElem_toArray, List.getElem_cons_succ, List.getElem_cons_zero, Act.put, List.setIfInBounds_toArray, List.set_cons_zero, List.set_cons_succ])
      (refine wpAnyH_ready (rs := [1]) (by kernel_rfl) (by simp) ?_; refine AllReadyH.cons rfl (fun K hK => ?_) AllReadyH.nil; go_simp; go_at_call 23; refine (rf_new 6 (by decide)).mono ?_; rintro e w' ⟨g, rfl, ex, hj, hr⟩; have Hy := Hx.join hj; clear Hx hj; (try go_simp); refine hK.out _ _ (Hy.blk (At.here.app ex)) (fun hH2_ => ?_); clear hK K hH_; have hH_ := hH2_; clear hH2_; try simp only [List.getElem_toArray, List.getElem_cons_succ, List.getElem_cons_zero, Act.put, List.setIfInBounds_toArray, List.set_cons_zero, List.set_cons_succ])
      (refine wpAnyH_ready (rs := [3]) (by kernel_rfl) (by simp) ?_; refine AllReadyH.cons rfl (fun K hK => ?_) AllReadyH.nil; go_simp; go_at_call 22; refine (do_calls (v := .pointer (some ⟨b, 0, none⟩)) (d := d) (x := Rf.new 6) o A3 c3 HF1.out HG3.out Hy ((At.there At.here).app ex) (hr _) (Rel.new (n := 6) (by decide)).2 (by have := HOK.out.2.2.2.2.2.2; omega)).mono ?_; rintro e w' ⟨A4, n4, c4, A5, n5, c5, ex2, rfl, H8, _⟩; clear Hy hr; (try go_simp); refine hK.out _ _ (H8.blk (.there ((At.here.app ex).app ex2))) (fun hH2_ => ?_); clear hK K hH_; have hH_ := hH2_; clear hH2_; try simp only [List.getElem_toArray, List.getElem_cons_succ, List.getElem_cons_zero, Act.put, List.setIfInBounds_toArray, List.set_cons_zero, List.set_cons_succ])
      (refine wpAnyH_take (i := 4) (v := ?_) rfl (by kernel_rfl) (by kernel_rfl) (by kernel_rfl) (fun _ _ _ h => h) (Or.inl ⟨by rfl, ?_⟩) hH_ ?_; rotate_left; (focus (intro w_ hSw_; go_simp; try (with_reducible rfl))); simp only [List.getElem_toArray, List.getElem_cons_succ, List.getElem_cons_zero, Act.put, List.setIfInBounds_toArray, List.set_cons_zero, List.set_cons_succ])
      (refine wpAnyH_take (i := 5) (v := ?_) rfl (by kernel_rfl) (by kernel_rfl) (by kernel_rfl) (fun _ _ _ h => h) (Or.inl ⟨by rfl, ?_⟩) hH_ ?_; rotate_left; (focus (intro w_ hSw_; go_simp; try (with_reducible rfl))); simp only [List.getElem_toArray, List.getElem_cons_succ, List.getElem_cons_zero, Act.put, List.setIfInBounds_toArray, List.set_cons_zero, List.set_cons_succ])
      (refine wpAnyH_take (i := 6) (v := ?_) rfl (by kernel_rfl) (by kernel_rfl) (by kernel_rfl) (fun _ _ _ h => h) (Or.inl ⟨by rfl, ?_⟩) hH_ ?_; rotate_left; (focus (intro w_ hSw_; go_simp; try (with_reducible rfl))); simp only [List.getElem_toArray, List.getElem_cons_succ, List.getElem_cons_zero, Act.put, List.setIfInBounds_toArray, List.set_cons_zero, List.set_cons_succ])
      refine wpAnyH_done (by kernel_rfl) ?_ _
      clear hH_
      have H9 := H8.head At.here
      clear H8
      have hact := ArmOk.act HOK.out HA.out o HK4.out HK5.out
      obtain ⟨d2, hd2⟩ : ∃ d2, d2 = actD d o := ⟨_, rfl⟩
      rw [← hd2] at H9 hact
      clear hd2
      obtain ⟨s2, hs2⟩ : ∃ s2, s2 = d2.steps := ⟨_, rfl⟩
      obtain ⟨g2, hg2⟩ : ∃ g2, g2 = d2.gone := ⟨_, rfl⟩
      have HQ : Aside0 (gd = true → s2 = s1) := ⟨fun h => by rw [hs2, HS1.out]; exact hact.2 (by rw [← HGD.out, h])⟩
      have HQ2 : Aside0 (g2 = true → s2 = a0) := ⟨fun h => by have h3 := hact.1.2.2.1; have h5 := hact.1.2.2.2.2.1 (by rw [← hg2, h]); omega⟩
      have hle : ¬ a0 < s2 := by have h3 := hact.1.2.2.1; have h5 := hact.1.2.1; omega
      have HOK2 := Aside0.mk hact.1
      have HS2 := Aside0.mk hs2
      have HG2 := Aside0.mk hg2
      clear hact hs2 hg2 HS1 HGD HOK
      have HEND : Aside0 (∃ d, Aside0 (ArmOk a0 (k + 1) d) ∧ Cx w.heap.size w w' [.own dkR (.pointer (some ⟨b, 0, none⟩)) d]) := ⟨d2, HOK2, H9⟩
      cases gd <;> cases g2
      · clear HQ
        clear HQ2
        go_wp2_with (first | (go_at_call 21; (with_reducible refine (dk_steps (d := d2) H9 At.here).mono ?_); rintro e w' ⟨rfl, rfl⟩; rw [← HS2.out]) | (go_at_call 19; (with_reducible refine (dk_down (d := d2) H9 At.here).mono ?_); rintro e w' ⟨rfl, rfl⟩; rw [← HG2.out]))
        exact ⟨⟨k + 1, d2, by omega, by go_num, HOK2, H9⟩, by simp [intOf]; omega⟩
      · clear HQ
        have hs22 : s2 = a0 := HQ2.out rfl
        clear HQ2
        subst hs22
        go_wp2_with (first | (go_at_call 21; (with_reducible refine (dk_steps (d := d2) H9 At.here).mono ?_); rintro e w' ⟨rfl, rfl⟩; rw [← HS2.out]) | (go_at_call 19; (with_reducible refine (dk_down (d := d2) H9 At.here).mono ?_); rintro e w' ⟨rfl, rfl⟩; rw [← HG2.out]))
        exact ⟨⟨k + 1, d2, by omega, by go_num, HOK2, H9⟩, by simp [intOf]; omega⟩
      · have hs21 : s2 = s1 := HQ.out rfl
        clear HQ
        subst hs21
        clear HQ2
        go_wp2_with (first | (go_at_call 21; (with_reducible refine (dk_steps (d := d2) H9 At.here).mono ?_); rintro e w' ⟨rfl, rfl⟩; rw [← HS2.out]) | (go_at_call 19; (with_reducible refine (dk_down (d := d2) H9 At.here).mono ?_); rintro e w' ⟨rfl, rfl⟩; rw [← HG2.out]))
        exact ⟨⟨k + 1, d2, by omega, by go_num, HOK2, H9⟩, by simp [intOf]; omega⟩
      · have hs21 : s2 = s1 := HQ.out rfl
        clear HQ
        subst hs21
        have hs22 : s2 = a0 := HQ2.out rfl
        clear HQ2
        subst hs22
        go_wp2_with (first | (go_at_call 21; (with_reducible refine (dk_steps (d := d2) H9 At.here).mono ?_); rintro e w' ⟨rfl, rfl⟩; rw [← HS2.out]) | (go_at_call 19; (with_reducible refine (dk_down (d := d2) H9 At.here).mono ?_); rintro e w' ⟨rfl, rfl⟩; rw [← HG2.out]))
        exact ⟨⟨k + 1, d2, by omega, by go_num, HOK2, H9⟩, by simp [intOf]; omega⟩
    · obtain rfl : k = l0.length := by omega
      go_wp2_with fail
      refine (dk_crash (d := d) none 0 0 [] (by have := HOK.out.2.2.2.2.2.2; omega) H6 (by repeat (with_reducible (first | exact At.here | apply At.there))) (fun W _ => Kd.C_nil Kd.bool W)).mono ?_
      rintro e w6 ⟨rfl, H7⟩
      clear H6
      have HOFF : Aside0 ((d.crash []).offE = none) := ⟨by simp [Dk.offE, Dk.off, Dk.crash]⟩
      have HCN : Aside0 ((d.crash []).cnt + (d.crash []).waiting.length < 100000) := ⟨by have := HOK.out.2.2.2.2.2.2; simp only [Dk.crash, Dk.settle, List.length_nil]; omega⟩
      have HGN : Aside0 ((d.crash []).gone = false) := ⟨rfl⟩
      generalize d.crash [] = d2 at *
      go_wp2_with fail
      refine (dk_down (d := d2) H7 At.here).mono ?_
      rintro e w' ⟨rfl, rfl⟩
      rw [HGN.out]
      go_wp2_with (go_at_call 14; (with_reducible refine (dk_flush (d := d2) HCN.out H7 At.here).mono ?_); rintro e w' ⟨rfl, H8⟩; rw [HOFF.out, errW_none])
      go_ret
      exact ⟨by first | rfl | trivial, H8.bel⟩

end Go.Proofs.Ytjoledofiindcaa.Hp
