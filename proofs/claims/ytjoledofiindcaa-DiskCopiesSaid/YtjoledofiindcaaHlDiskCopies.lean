/- Contracts of functions of the given program, and what they lean on: written by this session's own program, out of hand texts laid into the kit's printer. -/
import Derived.Test.YtjoledofiindcaaHp0
import Derived.Test.YtjoledofiindcaaHg1
import Derived.Test.YtjoledofiindcaaHg2
import Derived.Test.YtjoledofiindcaaHg3
import Derived.Test.YtjoledofiindcaaHg4
import Derived.Test.YtjoledofiindcaaHg5
namespace Go.Proofs.Ytjoledofiindcaa.Hp
open Go.RowKit Go.Proofs.YtjoledofiindcaaW.PrintWords Go.Proofs.YtjoledofiindcaaW.PrintLast Go.Proofs.YtjoledofiindcaaW.PrintMore
attribute [local go_sem] max2_int min2_int max_two min_two max_three min_three max_four min_four   -- for this text's walks alone
set_option linter.unusedVariables false
set_option linter.unusedSimpArgs false

/-! ### laminalaw02_DiskPlays: function 6 -/
-- needs: do_calls stands_calls act_rel act_good act_cnt rf_new Rel.new RfAt dk_new dk_len dk_new_bad
theorem at_skip {α : Type} {R : Repr α} {v : Value} {x : α} {b : Nat} {o : Obj} {l : List Asr} : ∀ (ex : List Asr) {q : List Asr}, At (ex ++ (.blk b o :: l)) (.own R v x) q → ∃ q', At (ex ++ l) (.own R v x) q'
  | [], _, h => by
    cases h with
    | there h => exact ⟨_, h⟩
  | a :: ex, _, h => by
    cases h with
    | here => exact ⟨_, .here⟩
    | there h =>
      obtain ⟨q', h'⟩ := at_skip ex h
      exact ⟨_, .there h'⟩
theorem RfAt.skip {ex : List Asr} {b : Nat} {o : Obj} {l : List Asr} {x : Rf} {A1 : Option Addr} {n1 c1 : Nat} {A2 : Option Addr} {n2 c2 : Nat} (h : RfAt (ex ++ (.blk b o :: l)) x A1 n1 c1 A2 n2 c2) : RfAt (ex ++ l) x A1 n1 c1 A2 n2 c2 :=
  ⟨h.s.elim fun _ k => at_skip ex k, h.w.elim fun _ k => at_skip ex k, h.z⟩
/-- What holds of both disks ahead of act k. -/
def PlayOk (k : Nat) (d : Dk) (x : Rf) : Prop := Rel d x ∧ x.Good ∧ x.waiting.length ≤ k ∧ d.cnt + d.waiting.length ≤ k
theorem PlayOk.act {k : Nat} {d : Dk} {x : Rf} (h : PlayOk k d x) (hk : k < 99999) (o : S36) : PlayOk (k + 1) (actD d o) (actX x o) := by
  obtain ⟨h1, h2, h3, h4⟩ := h
  obtain ⟨g1, g2, _⟩ := act_good h2 h3 hk o
  exact ⟨(act_rel h1 h2 o).1, g1, g2, Nat.le_trans (act_cnt d o) (by omega)⟩
set_option maxRecDepth 100000 in
set_option maxHeartbeats 8000000 in
theorem laminalaw02_DiskPlays.law (a0 : Int) (A0 : Option Addr) (c0 : Nat) (l0 : List S36) (w : World) (_hw0 : (Lit.int .i64 a0).wf = true) (hr0 : Kd.C k36 w A0 l0.length l0) (hc0 : l0.length ≤ c0) (_hy0 : l0.length * 48 ≤ 140737488351232) (hg : laminalaw02_full.OpsOk l0) :
    Calls Try.prog 6 #[.int .i64 a0, .slice A0 l0.length c0] w fun e w' => e = .returned (.bool true) ∧ Below w.heap.size w w' := by
  have hz := dk_zero
  have h26 := Try.underlying26
  have h28 := Try.underlying28
  have hu36 := Try.underlying36
  have hu50 := Try.underlying50
  have H0 := Cx.start w
  have HR0 := Aside0.mk hr0
  have HC0 := Aside0.mk hc0
  have HG := Aside0.mk hg
  clear hr0 hc0 hg
  go_enter Try.func6, Try.ntmps6
  go_wp2_with fail
  refine (laminalaw02_alive.calls w).mono ?_
  rintro e w1 ⟨rfl, hb⟩
  have H1 := H0.below hb
  clear H0 hb
  go_wp2_with fail
  refine (laminalaw02_full.long_calls A0 c0 l0 _ (Kd.C_below HR0.out H1.bel) HC0.out).mono ?_
  rintro e w2 ⟨r, rfl, hp, hb⟩
  have H2 := H1.below hb
  clear H1 hb
  cases r
  case true =>
    go_wp2
    ((try simp only [Exit.inBlock, Exit.then]); (apply Cx.atPost); (focus ((repeat (with_reducible (first | exact (H2).toS | exact At.here | apply At.there | apply CxS.drewN | apply CxS.drew | apply CxS.alloc | apply CxS.set | apply CxS.setRow))))); intro H3)
    go_ret
    exact ⟨by first | rfl | trivial, H3.bel⟩
  have hlen := (hp rfl).1
  clear hp
  by_cases hin : 1 ≤ a0 ∧ a0 ≤ 4096
  · obtain ⟨n, rfl⟩ : ∃ n : Nat, a0 = (n : Int) := ⟨a0.toNat, by omega⟩
    have hin1 : ¬ (n : Int) < 1 := by omega
    have hin3 : ¬ 4096 < (n : Int) := by omega
    have HIN := Aside0.mk hin
    clear hin
    by_cases h20 : 20 < (n : Int)
    · go_wp2_with fail
      refine (dk_new (n : Int) H2 HIN.out).mono ?_
      rintro e w3 ⟨b, rfl, H3⟩
      clear H2
      go_wp2_with (go_at_call 25; (with_reducible refine (dk_len H3 (by repeat (with_reducible (first | exact At.here | apply At.there)))).mono ?_); rintro e w' ⟨rfl, rfl⟩; rw [show (Dk.new (n : Int)).size = (n : Int) from rfl])
      ((try simp only [Exit.inBlock, Exit.then]); (apply Cx.atPost); (focus ((repeat (with_reducible (first | exact (H3).toS | exact At.here | apply At.there | apply CxS.drewN | apply CxS.drew | apply CxS.alloc | apply CxS.set | apply CxS.setRow))))); intro HT)
      go_ret
      exact ⟨by first | rfl | trivial, HT.bel⟩
    go_wp2_with fail
    refine (dk_new (n : Int) H2 HIN.out).mono ?_
    rintro e w3 ⟨b, rfl, H3⟩
    clear H2
    go_wp2_with (go_at_call 25; (with_reducible refine (dk_len H3 (by repeat (with_reducible (first | exact At.here | apply At.there)))).mono ?_); rintro e w' ⟨rfl, rfl⟩; rw [show (Dk.new (n : Int)).size = (n : Int) from rfl])
    have hn : 0 < n ∧ n ≤ 100000 := by omega
    refine (rf_new n hn).mono ?_
    rintro e w4 ⟨g, rfl, ex, hj, hr4⟩
    have H4 := (H3.join hj).find (At.here.app ex)
    have hrel0 := Rel.new hn
    have HP0 : Aside0 (PlayOk 0 (Dk.new (n : Int)) (Rf.new n)) := ⟨hrel0.1, hrel0.2, Nat.le_refl _, Nat.le_refl _⟩
    obtain ⟨m5, hm5⟩ : ∃ m5, m5 = ex ++ [] := ⟨_, rfl⟩
    have HR6 : Aside0 (RfAt m5 (Rf.new n) (some ⟨g, 0, none⟩) n n none 0 0) := ⟨by rw [hm5]; exact hr4 []⟩
    rw [← hm5] at H4
    clear H3 hj hr4 hrel0 hm5 hn h20 hin1 hin3 HIN
    go_wp2_with fail
    ((first | apply Cx.genCall | apply Cx.genCode | apply Cx.genList); (focus ((repeat (with_reducible (first | exact (H4).toS | exact At.here | apply At.there | apply CxS.drewN | apply CxS.drew | apply CxS.alloc | apply CxS.set | apply CxS.setRow))))); clear H4; intro w5 H5)
    (try simp only [List.setIfInBounds_toArray, List.set_cons_zero, List.set_cons_succ] at H5)
    generalize w4.heap.size = g7 at *
    go_loopw [47] (fun v47 wr => ∃ (k : Nat) (d : Dk) (x : Rf) (A1 : Option Addr) (n1 c1 : Nat) (A2 : Option Addr) (n2 c2 : Nat) (m5 : List Asr), k ≤ l0.length ∧ v47 = .int .i64 k ∧ Aside0 (PlayOk k d x ∧ RfAt m5 x A1 n1 c1 A2 n2 c2) ∧ Cx w.heap.size w wr (.blk g7 (.cells (rfC A1 n1 c1 A2 n2 c2 x.steps x.left x.armed x.gone) 50 (0, 0)) :: .own dkR (.pointer (some ⟨b, 0, none⟩)) d :: m5)) (fun v47 _ => l0.length - (intOf v47).toNat)
    case atStart => exact ⟨0, _, Rf.new n, _, _, _, _, _, _, m5, by omega, rfl, ⟨HP0.out, HR6.out⟩, H5⟩
    case round =>
      clear H5 HP0 HR6
      obtain ⟨k, d, x, A1, n1, c1, A2, n2, c2, m5, hk, rfl, HOK, H6⟩ := hrel
      by_cases hlt : k < l0.length
      · have h0 : (0 : Int) ≤ (k : Int) := by omega
        have h1 : (k : Int) < (l0.length : Int) := by omega
        obtain ⟨ad, A3, c3, rfl, t0, t1, t2, t3, hl3, g3⟩ := at_T36 HR0.out (k : Int) h0 h1
        obtain ⟨hf0, hf1, hmem⟩ := laminalaw02_full.ok_at HG.out k hlt
        replace t0 := (H6.bel.cell (World.block_lt_of_cell? w _ t0)).trans t0
        replace t1 := (H6.bel.cell (World.block_lt_of_cell? w _ t1)).trans t1
        replace t2 := (H6.bel.cell (World.block_lt_of_cell? w _ t2)).trans t2
        replace t3 := (H6.bel.cell (World.block_lt_of_cell? w _ t3)).trans t3
        simp only [Int.toNat_natCast] at t0 t1 t2 t3
        obtain ⟨o, hx⟩ : ∃ o, o = rd_T36 l0 (k : Int) := ⟨_, rfl⟩
        rw [← hx] at t0 t1 t2 t3 hf0 hf1 g3
        have HF1 := Aside0.mk hf1
        have HG3 := Aside0.mk g3
        clear hx hmem hl3 g3 hf0 hf1
        have F := (H6).facts; simp only [factsOf, Asr.facts, blkFacts, cellsAre, List.toList_toArray, forall_const, Nat.zero_add, Nat.reduceAdd, and_true, true_and] at F
        go_wp2_with fail
        clear F
        ((first | apply Cx.genCall | apply Cx.genCode | apply Cx.genList); (focus ((repeat (with_reducible (first | exact (H6).toS | exact At.here | apply At.there | apply CxS.drewN | apply CxS.drew | apply CxS.alloc | apply CxS.set | apply CxS.setRow))))); clear H6; intro wc H7)
        (try simp only [List.setIfInBounds_toArray, List.set_cons_zero, List.set_cons_succ] at H7)
        clear t0 t1 t2 t3
        generalize wr.heap.size = g9 at *
        refine (do_calls (v := .pointer (some ⟨b, 0, none⟩)) o A3 c3 HF1.out HG3.out H7 (by repeat (with_reducible (first | exact At.here | apply At.there))) ((HOK.out.2.cons _).cons _) HOK.out.1.2.1 (by have := HOK.out.1.2.2.2; omega)).mono ?_
        rintro e wd ⟨A4, n4, c4, A5, n5, c5, ex2, rfl, H8, hr8⟩
        have H9 := (H8.find (.there ((At.there At.here).app ex2))).drop (.there (.there (At.here.app ex2)))
        have hr9 := hr8.skip.skip
        have HAB := Aside0.mk (act_rel HOK.out.1.1 HOK.out.1.2.1 o).2
        have HOK2 := Aside0.mk (PlayOk.act HOK.out.1 (by omega) o)
        try rw [HAB.out]
        clear H7 H8 hr8 HAB
        obtain ⟨d2, hd2⟩ : ∃ d2, d2 = actD d o := ⟨_, rfl⟩
        obtain ⟨x2, hx2⟩ : ∃ x2, x2 = actX x o := ⟨_, rfl⟩
        obtain ⟨m6, hm6⟩ : ∃ m6, m6 = ex2 ++ m5 := ⟨_, rfl⟩
        rw [← hd2, ← hm6] at H9
        rw [← hx2, ← hm6] at hr9
        rw [← hd2, ← hx2] at HOK2
        rw [← hx2]
        have HR2 := Aside0.mk hr9
        clear hd2 hx2 hm6 hr9
        have F := (H9).facts; simp only [factsOf, Asr.facts, blkFacts, cellsAre, List.toList_toArray, forall_const, Nat.zero_add, Nat.reduceAdd, and_true, true_and] at F
        go_wp2_with fail
        clear F
        ((first | apply Cx.genCall | apply Cx.genCode | apply Cx.genList); (focus ((repeat (with_reducible (first | exact (H9).toS | exact At.here | apply At.there | apply CxS.drewN | apply CxS.drew | apply CxS.alloc | apply CxS.set | apply CxS.setRow))))); clear H9; intro we Hx)
        (try simp only [List.setIfInBounds_toArray, List.set_cons_zero, List.set_cons_succ] at Hx)
        refine (stands_calls (d := d2) (x := x2) Hx (by repeat (with_reducible (first | exact At.here | apply At.there))) ((HR2.out.cons _).cons _) HOK2.out.2.1 HOK2.out.1).mono ?_
        rintro e wf ⟨rfl, Hy⟩
        clear Hx
        go_wp2
        exact ⟨⟨k + 1, d2, x2, _, _, _, _, _, _, m6, by omega, by go_num, ⟨HOK2.out, HR2.out⟩, (Hy.drop (a := .blk wd.heap.size _) (by repeat (with_reducible (first | exact At.here | apply At.there)))).find (a := .blk g7 _) (by repeat (with_reducible (first | exact At.here | apply At.there)))⟩, by simp [intOf]; omega⟩
      · obtain rfl : k = l0.length := by omega
        have F := (H6).facts; simp only [factsOf, Asr.facts, blkFacts, cellsAre, List.toList_toArray, forall_const, Nat.zero_add, Nat.reduceAdd, and_true, true_and] at F
        go_wp2_with fail
        clear F
        refine (stands_calls (d := d) (x := x) H6 (by repeat (with_reducible (first | exact At.here | apply At.there))) (HOK.out.2.cons _) HOK.out.1.2.1 HOK.out.1.1).mono ?_
        rintro e wf ⟨rfl, Hy⟩
        clear H6
        go_wp2
        go_ret
        exact ⟨by first | rfl | trivial, Hy.bel⟩
  · have HIN := Aside0.mk hin
    clear hin
    go_wp2_with fail
    refine (dk_new_bad a0 H2 (by have := HIN.out; omega)).mono ?_
    rintro e w3 ⟨rfl, H3⟩
    clear H2
    have HIS := fun W => laminanum_Is.calls (some 1) 1 true W (by rfl)
    rw [errW_some] at HIS ⊢
    by_cases hlo : a0 < 1
    · go_wp2_with fail
      refine (HIS _).mono ?_
      rintro e w' ⟨rfl, ⟨nd, rfl⟩⟩
      go_wp2
      ((try simp only [Exit.inBlock, Exit.then]); (apply Cx.atPost); (focus ((repeat (with_reducible (first | exact (H3).toS | exact At.here | apply At.there | apply CxS.drewN | apply CxS.drew | apply CxS.alloc | apply CxS.set | apply CxS.setRow))))); intro HT)
      go_ret
      exact ⟨by first | rfl | trivial, HT.bel⟩
    · have hhi : 4096 < a0 := by have := HIN.out; omega
      go_wp2_with fail
      refine (HIS _).mono ?_
      rintro e w' ⟨rfl, ⟨nd, rfl⟩⟩
      go_wp2
      ((try simp only [Exit.inBlock, Exit.then]); (apply Cx.atPost); (focus ((repeat (with_reducible (first | exact (H3).toS | exact At.here | apply At.there | apply CxS.drewN | apply CxS.drew | apply CxS.alloc | apply CxS.set | apply CxS.setRow))))); intro HT)
      go_ret
      exact ⟨by first | rfl | trivial, HT.bel⟩

/-! ### laminalaw02_DiskCopies: function 7 -/
-- needs: do_calls stands_calls act_rel act_good act_cnt rf_new Rel.new RfAt dk_new dk_copy rangeAt_blk PlayOk at_skip
def Asr.val : Asr → Value
  | .own _ v _ => v
  | .blk _ _ => undef
theorem at_skipV {α β : Type} {R : Repr α} {v : Value} {x : α} {R2 : Repr β} {v2 : Value} {x2 : β} (hv : v2 ≠ v) {l : List Asr} : ∀ (ex : List Asr) {q : List Asr}, At (ex ++ (.own R2 v2 x2 :: l)) (.own R v x) q → ∃ q', At (ex ++ l) (.own R v x) q'
  | [], _, h => by
    generalize hL : ([] ++ (Asr.own R2 v2 x2 :: l)) = L at h
    generalize hA : Asr.own R v x = A at h
    cases h with
    | here =>
      injection hL with h1 _
      exact absurd ((congrArg Asr.val h1).trans (congrArg Asr.val hA).symm) hv
    | there h =>
      injection hL with _ h2
      subst h2
      exact ⟨_, h⟩
  | a :: ex, _, h => by
    cases h with
    | here => exact ⟨_, .here⟩
    | there h =>
      obtain ⟨q', h'⟩ := at_skipV hv ex h
      exact ⟨_, .there h'⟩
theorem RfAt.skipD {ex : List Asr} {p : Option Addr} {d : Dk} {l : List Asr} {x : Rf} {A1 : Option Addr} {n1 c1 : Nat} {A2 : Option Addr} {n2 c2 : Nat} (h : RfAt (ex ++ (.own dkR (.pointer p) d :: l)) x A1 n1 c1 A2 n2 c2) : RfAt (ex ++ l) x A1 n1 c1 A2 n2 c2 :=
  ⟨h.s.elim fun _ k => at_skipV (fun h => by cases h) ex k, h.w.elim fun _ k => at_skipV (fun h => by cases h) ex k, h.z⟩
set_option maxRecDepth 100000 in
set_option maxHeartbeats 8000000 in
theorem laminalaw02_DiskCopies.law (A0 : Option Addr) (c0 : Nat) (l0 : List S36) (A9 : Option Addr) (c9 : Nat) (l1 : List S36) (w : World) (hr0 : Kd.C k36 w A0 l0.length l0) (hc0 : l0.length ≤ c0) (_hy0 : l0.length * 48 ≤ 140737488351232) (hg0 : laminalaw02_full.OpsOk l0)
    (hr1 : Kd.C k36 w A9 l1.length l1) (hc1 : l1.length ≤ c9) (_hy1 : l1.length * 48 ≤ 140737488351232) (hg1 : laminalaw02_full.OpsOk l1) :
    Calls Try.prog 7 #[.slice A0 l0.length c0, .slice A9 l1.length c9] w fun e w' => e = .returned (.bool true) ∧ Below w.heap.size w w' := by
  have hz := dk_zero
  have h26 := Try.underlying26
  have h28 := Try.underlying28
  have hu36 := Try.underlying36
  have hu50 := Try.underlying50
  have H0 := Cx.start w
  have HR0 := Aside0.mk hr0
  have HC0 := Aside0.mk hc0
  have HG0 := Aside0.mk hg0
  have HR1 := Aside0.mk hr1
  have HC1 := Aside0.mk hc1
  have HG1 := Aside0.mk hg1
  clear hr0 hc0 hg0 hr1 hc1 hg1
  go_enter Try.func7, Try.ntmps7
  go_wp2_with fail
  refine (laminalaw02_alive.calls w).mono ?_
  rintro e w1 ⟨rfl, hb⟩
  have H1 := H0.below hb
  clear H0 hb
  go_wp2_with fail
  refine (laminalaw02_full.long_calls A0 c0 l0 _ (Kd.C_below HR0.out H1.bel) HC0.out).mono ?_
  rintro e w2 ⟨r, rfl, hp, hb⟩
  have H2 := H1.below hb
  clear H1 hb
  cases r
  case true =>
    go_wp2
    ((try simp only [Exit.inBlock, Exit.then]); (apply Cx.atPost); (focus ((repeat (with_reducible (first | exact (H2).toS | exact At.here | apply At.there | apply CxS.drewN | apply CxS.drew | apply CxS.alloc | apply CxS.set | apply CxS.setRow))))); intro H3)
    go_ret
    exact ⟨by first | rfl | trivial, H3.bel⟩
  have hlen := (hp rfl).1
  clear hp
  go_wp2_with fail
  refine (laminalaw02_full.long_calls A9 c9 l1 _ (Kd.C_below HR1.out H2.bel) HC1.out).mono ?_
  rintro e w3 ⟨r, rfl, hp, hb⟩
  have H3 := H2.below hb
  clear H2 hb
  cases r
  case true =>
    go_wp2
    ((try simp only [Exit.inBlock, Exit.then]); (apply Cx.atPost); (focus ((repeat (with_reducible (first | exact (H3).toS | exact At.here | apply At.there | apply CxS.drewN | apply CxS.drew | apply CxS.alloc | apply CxS.set | apply CxS.setRow))))); intro H4)
    go_ret
    exact ⟨by first | rfl | trivial, H4.bel⟩
  have hlen1 := (hp rfl).1
  clear hp
  go_wp2_with fail
  refine (dk_new 5 H3 (by decide)).mono ?_
  rintro e w4 ⟨b, rfl, H4⟩
  clear H3
  go_wp2_with fail
  refine (rf_new 5 (by decide)).mono ?_
  rintro e w5 ⟨g, rfl, ex, hj, hr4⟩
  have H5 := (H4.join hj).find (At.here.app ex)
  have hrel0 := Rel.new (n := 5) (by decide)
  have HP0 : Aside0 (PlayOk 0 (Dk.new 5) (Rf.new 5)) := ⟨hrel0.1, hrel0.2, Nat.le_refl _, Nat.le_refl _⟩
  obtain ⟨m5, hm5⟩ : ∃ m5, m5 = ex ++ [] := ⟨_, rfl⟩
  have HR6 : Aside0 (RfAt m5 (Rf.new 5) (some ⟨g, 0, none⟩) 5 5 none 0 0) := ⟨by rw [hm5]; exact hr4 []⟩
  rw [← hm5] at H5
  clear H4 hj hr4 hrel0 hm5
  go_wp2_with fail
  ((first | apply Cx.genCall | apply Cx.genCode | apply Cx.genList); (focus ((repeat (with_reducible (first | exact (H5).toS | exact At.here | apply At.there | apply CxS.drewN | apply CxS.drew | apply CxS.alloc | apply CxS.set | apply CxS.setRow))))); clear H5; intro w6 H6)
  (try simp only [List.setIfInBounds_toArray, List.set_cons_zero, List.set_cons_succ] at H6)
  generalize w5.heap.size = g7 at *
  go_loopw [31] (fun v31 wr => ∃ (k : Nat) (d : Dk) (x : Rf) (A1 : Option Addr) (n1 c1 : Nat) (A2 : Option Addr) (n2 c2 : Nat) (m5 : List Asr), k ≤ l0.length ∧ v31 = .int .i64 k ∧ Aside0 (PlayOk k d x ∧ RfAt m5 x A1 n1 c1 A2 n2 c2) ∧ Cx w.heap.size w wr (.blk g7 (.cells (rfC A1 n1 c1 A2 n2 c2 x.steps x.left x.armed x.gone) 50 (0, 0)) :: .own dkR (.pointer (some ⟨b, 0, none⟩)) d :: m5)) (fun v31 _ => l0.length - (intOf v31).toNat)
  case atStart => exact ⟨0, _, Rf.new 5, _, _, _, _, _, _, m5, by omega, rfl, ⟨HP0.out, HR6.out⟩, H6⟩
  case round =>
    clear H6 HP0 HR6
    obtain ⟨k, d, x, A1, n1, c1, A2, n2, c2, m5, hk, rfl, HOK, H6⟩ := hrel
    by_cases hlt : k < l0.length
    · have h0 : (0 : Int) ≤ (k : Int) := by omega
      have h1 : (k : Int) < (l0.length : Int) := by omega
      obtain ⟨ad, A3, c3, rfl, t0, t1, t2, t3, hl3, g3⟩ := at_T36 HR0.out (k : Int) h0 h1
      obtain ⟨hf0, hf1, hmem⟩ := laminalaw02_full.ok_at HG0.out k hlt
      replace t0 := (H6.bel.cell (World.block_lt_of_cell? w _ t0)).trans t0
      replace t1 := (H6.bel.cell (World.block_lt_of_cell? w _ t1)).trans t1
      replace t2 := (H6.bel.cell (World.block_lt_of_cell? w _ t2)).trans t2
      replace t3 := (H6.bel.cell (World.block_lt_of_cell? w _ t3)).trans t3
      simp only [Int.toNat_natCast] at t0 t1 t2 t3
      obtain ⟨o, hx⟩ : ∃ o, o = rd_T36 l0 (k : Int) := ⟨_, rfl⟩
      rw [← hx] at t0 t1 t2 t3 hf0 hf1 g3
      have HF1 := Aside0.mk hf1
      have HG3 := Aside0.mk g3
      clear hx hmem hl3 g3 hf0 hf1
      have F := (H6).facts; simp only [factsOf, Asr.facts, blkFacts, cellsAre, List.toList_toArray, forall_const, Nat.zero_add, Nat.reduceAdd, and_true, true_and] at F
      go_wp2_with fail
      clear F
      ((first | apply Cx.genCall | apply Cx.genCode | apply Cx.genList); (focus ((repeat (with_reducible (first | exact (H6).toS | exact At.here | apply At.there | apply CxS.drewN | apply CxS.drew | apply CxS.alloc | apply CxS.set | apply CxS.setRow))))); clear H6; intro wc H7)
      (try simp only [List.setIfInBounds_toArray, List.set_cons_zero, List.set_cons_succ] at H7)
      clear t0 t1 t2 t3
      generalize wr.heap.size = g9 at *
      · refine (do_calls (v := .pointer (some ⟨b, 0, none⟩)) o A3 c3 HF1.out HG3.out H7 (by repeat (with_reducible (first | exact At.here | apply At.there))) ((HOK.out.2.cons _).cons _) HOK.out.1.2.1 (by have := HOK.out.1.2.2.2; omega)).mono ?_
        rintro e wd ⟨A4, n4, c4, A5, n5, c5, ex2, rfl, H8, hr8⟩
        have H9 := (H8.find (.there ((At.there At.here).app ex2))).drop (.there (.there (At.here.app ex2)))
        have hr9 := hr8.skip.skip
        have HAB := Aside0.mk (act_rel HOK.out.1.1 HOK.out.1.2.1 o).2
        have HOK2 := Aside0.mk (PlayOk.act HOK.out.1 (by omega) o)
        try rw [HAB.out]
        clear H7 H8 hr8 HAB
        obtain ⟨d2, hd2⟩ : ∃ d2, d2 = actD d o := ⟨_, rfl⟩
        obtain ⟨x2, hx2⟩ : ∃ x2, x2 = actX x o := ⟨_, rfl⟩
        obtain ⟨m6, hm6⟩ : ∃ m6, m6 = ex2 ++ m5 := ⟨_, rfl⟩
        rw [← hd2, ← hm6] at H9
        rw [← hx2, ← hm6] at hr9
        rw [← hd2, ← hx2] at HOK2
        rw [← hx2]
        have HR2 := Aside0.mk hr9
        clear hd2 hx2 hm6 hr9
        have F := (H9).facts; simp only [factsOf, Asr.facts, blkFacts, cellsAre, List.toList_toArray, forall_const, Nat.zero_add, Nat.reduceAdd, and_true, true_and] at F
        go_wp2_with fail
        clear F
        have Hx := ((((((H9.toS.set (b := g7) (by repeat (with_reducible (first | exact At.here | apply At.there))) 0 (.slice A4 n4 c4)).set (b := g7) (by repeat (with_reducible (first | exact At.here | apply At.there))) 1 (.slice A5 n5 c5)).set (b := g7) (by repeat (with_reducible (first | exact At.here | apply At.there))) 2 (.int .i64 x2.steps)).set (b := g7) (by repeat (with_reducible (first | exact At.here | apply At.there))) 3 (.int .i64 x2.left)).set (b := g7) (by repeat (with_reducible (first | exact At.here | apply At.there))) 4 (.bool x2.armed)).set (b := g7) (by repeat (with_reducible (first | exact At.here | apply At.there))) 5 (.bool x2.gone)).cx
        (try simp only [List.setIfInBounds_toArray, List.set_cons_zero, List.set_cons_succ] at Hx)
        exact ⟨⟨k + 1, d2, x2, _, _, _, _, _, _, m6, by omega, by go_num, ⟨HOK2.out, HR2.out⟩, Hx⟩, by simp [intOf]; omega⟩
    · obtain rfl : k = l0.length := by omega
      go_wp2_with fail
      have Hx := (H6.toS.drew).cx
      clear H6
      refine wp_region_held_drew (S := fun W => W.heap[g7]? = some (.cells (rfC A1 n1 c1 A2 n2 c2 x.steps x.left x.armed x.gone) 50 (0, 0))) (by kernel_rfl) (Hx.blk (by repeat (with_reducible (first | exact At.here | apply At.there)))) (fun hH_ => ?_)
      generalize wr.drew = wq at *
      (refine wpAnyH_take (i := 0) (v := ?_) rfl (by kernel_rfl) (by kernel_rfl) (by kernel_rfl) (fun _ _ _ h => h) (Or.inl ⟨by rfl, ?_⟩) hH_ ?_; rotate_left; (focus (intro w_ hSw_; go_simp; try (with_reducible rfl))); simp only [List.getElem_toArray, List.getElem_cons_succ, List.getElem_cons_zero, Act.put, List.setIfInBounds_toArray, List.set_cons_zero, List.set_cons_succ])
      (refine wpAnyH_take (i := 2) rfl (by kernel_rfl) (by kernel_rfl) (by kernel_rfl) (fun _ _ _ h => h) (yieldsIf_load_mid (by rfl) 50 (.tmp 7) rfl (g7) (0) rfl ([.slice A1 n1 c1, .slice A2 n2 c2, .int .i64 x.steps, .int .i64 x.left, .bool x.armed, .bool x.gone]) _ (fun W h => rangeAt_blk h) Try.underlying50 rfl (rf_info)) hH_ ?_; simp only [List.getElem_toArray, List.getElem_cons_succ, List.getElem_cons_zero, Act.put, List.setIfInBounds_toArray, List.set_cons_zero, List.set_cons_succ])
      refine wpAnyH_ready (rs := [1, 3]) (by kernel_rfl) (by simp) ?_
      have hlw : d.waiting.length < 1000000 := by have := HOK.out.1.2.2.2; omega
      refine AllReadyH.cons rfl (fun K hK => ?_) (AllReadyH.cons rfl (fun K hK => ?_) AllReadyH.nil)
      · (rw [if_pos (by rfl)]; go_simp; go_at_call 27; refine (dk_copy (d := d) Hx (by repeat (with_reducible (first | exact At.here | apply At.there))) hlw).mono ?_; rintro e w' ⟨b2, rfl, Hy⟩; clear Hx)
        try go_simp
        (refine hK.out _ _ (Hy.blk (by repeat (with_reducible (first | exact At.here | apply At.there)))) (fun hH2_ => ?_); clear hK K hH_; have hH_ := hH2_; clear hH2_; try simp only [List.getElem_toArray, List.getElem_cons_succ, List.getElem_cons_zero, Act.put, List.setIfInBounds_toArray, List.set_cons_zero, List.set_cons_succ])
        obtain ⟨g11, hg11⟩ : ∃ g11, g11 = w'.heap.size := ⟨_, rfl⟩
        (refine wpAnyH_ready (rs := [3]) (by kernel_rfl) (by simp) ?_; refine AllReadyH.cons rfl (fun K hK => ?_) AllReadyH.nil; have F := (Hy).facts; simp only [factsOf, Asr.facts, blkFacts, cellsAre, List.toList_toArray, forall_const, Nat.zero_add, Nat.reduceAdd, and_true, true_and] at F; go_simp; refine Cx.genP (C := K _) (by (repeat (with_reducible (first | exact (Hy).toS | exact At.here | apply At.there | apply CxS.drewN | apply CxS.drew | apply CxS.alloc | apply CxS.set | apply CxS.setRow)))) (fun Wn Hn => ?_); clear F Hy; have Hy := Hn; clear Hn; (try simp only [List.setIfInBounds_toArray, List.set_cons_zero, List.set_cons_succ] at Hy); refine hK.out _ _ (Hy.blk (b := g7) (by repeat (with_reducible (first | exact At.here | apply At.there)))) (fun hH2_ => ?_); clear hK K hH_; have hH_ := hH2_; clear hH2_; try simp only [List.getElem_toArray, List.getElem_cons_succ, List.getElem_cons_zero, Act.put, List.setIfInBounds_toArray, List.set_cons_zero, List.set_cons_succ])
        rw [← hg11] at Hy ⊢
        clear hg11
        (refine wpAnyH_take (i := 4) (v := ?_) rfl (by kernel_rfl) (by kernel_rfl) (by kernel_rfl) (fun _ _ _ h => h) (Or.inl ⟨by rfl, ?_⟩) hH_ ?_; rotate_left; (focus (intro w_ hSw_; go_simp; try (with_reducible rfl))); simp only [List.getElem_toArray, List.getElem_cons_succ, List.getElem_cons_zero, Act.put, List.setIfInBounds_toArray, List.set_cons_zero, List.set_cons_succ])
        (refine wpAnyH_ready (rs := [5]) (by kernel_rfl) (by simp) ?_; refine AllReadyH.cons rfl (fun K hK => ?_) AllReadyH.nil; have F := (Hy).facts; simp only [factsOf, Asr.facts, blkFacts, cellsAre, List.toList_toArray, forall_const, Nat.zero_add, Nat.reduceAdd, and_true, true_and] at F; go_simp; refine Cx.genP (C := K _) (by (repeat (with_reducible (first | exact (Hy).toS | exact At.here | apply At.there | apply CxS.drewN | apply CxS.drew | apply CxS.alloc | apply CxS.set | apply CxS.setRow)))) (fun Wn Hn => ?_); clear F Hy; have Hy := Hn; clear Hn; (try simp only [List.setIfInBounds_toArray, List.set_cons_zero, List.set_cons_succ] at Hy); refine hK.out _ _ (Hy.blk (b := g7) (by repeat (with_reducible (first | exact At.here | apply At.there)))) (fun hH2_ => ?_); clear hK K hH_; have hH_ := hH2_; clear hH2_; try simp only [List.getElem_toArray, List.getElem_cons_succ, List.getElem_cons_zero, Act.put, List.setIfInBounds_toArray, List.set_cons_zero, List.set_cons_succ])
        refine wpAnyH_done (by kernel_rfl) ?_ _
        clear hH_
        go_wp2_with fail
        go_loopw [48] (fun v48 wr => ∃ (k : Nat) (e : Dk) (y : Rf) (B1 : Option Addr) (p1 q1 : Nat) (B2 : Option Addr) (p2 q2 : Nat) (m6 : List Asr), k ≤ l1.length ∧ v48 = .int .i64 k ∧ Aside0 (PlayOk (l0.length + k) e y ∧ RfAt m6 y B1 p1 q1 B2 p2 q2 ∧ RfAt m6 x A1 n1 c1 A2 n2 c2) ∧ Cx w.heap.size w wr (.blk g11 (.cells (rfC B1 p1 q1 B2 p2 q2 y.steps y.left y.armed y.gone) 50 (0, 0)) :: .own dkR (.pointer (some ⟨b2, 0, none⟩)) e :: .own dkR (.pointer (some ⟨b, 0, none⟩)) d :: .blk g7 (.cells (rfC A1 n1 c1 A2 n2 c2 x.steps x.left x.armed x.gone) 50 (0, 0)) :: m6)) (fun v48 _ => l1.length - (intOf v48).toNat)
        case atStart => exact ⟨0, d, x, _, _, _, _, _, _, m5, by omega, rfl, ⟨HOK.out.1, HOK.out.2, HOK.out.2⟩, Hy⟩
        case round =>
          clear Hy
          obtain ⟨j, e, y, B1, p1, q1, B2, p2, q2, m6, hj, rfl, HOJ, H6⟩ := hrel
          by_cases hlt : j < l1.length
          · have h0 : (0 : Int) ≤ (j : Int) := by omega
            have h1 : (j : Int) < (l1.length : Int) := by omega
            obtain ⟨ad, A3, c3, rfl, t0, t1, t2, t3, hl3, g3⟩ := at_T36 HR1.out (j : Int) h0 h1
            obtain ⟨hf0, hf1, hmem⟩ := laminalaw02_full.ok_at HG1.out j hlt
            replace t0 := (H6.bel.cell (World.block_lt_of_cell? w _ t0)).trans t0
            replace t1 := (H6.bel.cell (World.block_lt_of_cell? w _ t1)).trans t1
            replace t2 := (H6.bel.cell (World.block_lt_of_cell? w _ t2)).trans t2
            replace t3 := (H6.bel.cell (World.block_lt_of_cell? w _ t3)).trans t3
            simp only [Int.toNat_natCast] at t0 t1 t2 t3
            obtain ⟨o, hx⟩ : ∃ o, o = rd_T36 l1 (j : Int) := ⟨_, rfl⟩
            rw [← hx] at t0 t1 t2 t3 hf0 hf1 g3
            have HF1 := Aside0.mk hf1
            have HG3 := Aside0.mk g3
            clear hx hmem hl3 g3 hf0 hf1
            have F := (H6).facts; simp only [factsOf, Asr.facts, blkFacts, cellsAre, List.toList_toArray, forall_const, Nat.zero_add, Nat.reduceAdd, and_true, true_and] at F
            go_wp2_with fail
            clear F
            ((first | apply Cx.genCall | apply Cx.genCode | apply Cx.genList); (focus ((repeat (with_reducible (first | exact (H6).toS | exact At.here | apply At.there | apply CxS.drewN | apply CxS.drew | apply CxS.alloc | apply CxS.set | apply CxS.setRow))))); clear H6; intro wc H7)
            (try simp only [List.setIfInBounds_toArray, List.set_cons_zero, List.set_cons_succ] at H7)
            clear t0 t1 t2 t3
            generalize wr.heap.size = g13 at *
            refine (do_calls (v := .pointer (some ⟨b2, 0, none⟩)) (d := e) (x := y) o A3 c3 HF1.out HG3.out H7 (by repeat (with_reducible (first | exact At.here | apply At.there))) ((((HOJ.out.2.1.cons _).cons _).cons _).cons _) HOJ.out.1.2.1 (by have := HOJ.out.1.2.2.2; omega)).mono ?_
            rintro e' wd ⟨A4, n4, c4, A5, n5, c5, ex2, rfl, H8, hr8⟩
            have H9 := ((((((H8.find (.there ((At.there At.here).app ex2))).drop (.there (.there (At.here.app ex2)))).find (.there (.there (At.here.app ex2)))).find (.there (.there (.there (At.here.app ex2))))).find (.there .here)).find (.there (.there (.there .here)))).find (.there (.there (.there .here)))
            have hr9 := hr8.skip.skip.skipD.skip
            have hrx := HOJ.out.2.2.app ex2
            have HOK2 := Aside0.mk (PlayOk.act HOJ.out.1 (by omega) o)
            clear H7 H8 hr8
            obtain ⟨d2, hd2⟩ : ∃ d2, d2 = actD e o := ⟨_, rfl⟩
            obtain ⟨x2, hx2⟩ : ∃ x2, x2 = actX y o := ⟨_, rfl⟩
            obtain ⟨m7, hm7⟩ : ∃ m7, m7 = ex2 ++ m6 := ⟨_, rfl⟩
            rw [← hd2, ← hm7] at H9
            rw [← hx2, ← hm7] at hr9
            rw [← hm7] at hrx
            rw [← hd2, ← hx2] at HOK2
            rw [← hx2]
            have HR2 := Aside0.mk hr9
            have HRX := Aside0.mk hrx
            clear hd2 hx2 hm7 hr9 hrx
            have F := (H9).facts; simp only [factsOf, Asr.facts, blkFacts, cellsAre, List.toList_toArray, forall_const, Nat.zero_add, Nat.reduceAdd, and_true, true_and] at F
            go_wp2_with fail
            clear F
            have Hx := ((((((H9.toS.set (b := g11) (by repeat (with_reducible (first | exact At.here | apply At.there))) 0 (.slice A4 n4 c4)).set (b := g11) (by repeat (with_reducible (first | exact At.here | apply At.there))) 1 (.slice A5 n5 c5)).set (b := g11) (by repeat (with_reducible (first | exact At.here | apply At.there))) 2 (.int .i64 x2.steps)).set (b := g11) (by repeat (with_reducible (first | exact At.here | apply At.there))) 3 (.int .i64 x2.left)).set (b := g11) (by repeat (with_reducible (first | exact At.here | apply At.there))) 4 (.bool x2.armed)).set (b := g11) (by repeat (with_reducible (first | exact At.here | apply At.there))) 5 (.bool x2.gone)).cx
            (try simp only [List.setIfInBounds_toArray, List.set_cons_zero, List.set_cons_succ] at Hx)
            exact ⟨⟨j + 1, d2, x2, _, _, _, _, _, _, m7, by omega, by go_num, ⟨HOK2.out, HR2.out, HRX.out⟩, Hx⟩, by simp [intOf]; omega⟩
          · obtain rfl : j = l1.length := by omega
            have F := (H6).facts; simp only [factsOf, Asr.facts, blkFacts, cellsAre, List.toList_toArray, forall_const, Nat.zero_add, Nat.reduceAdd, and_true, true_and] at F
            go_wp2_with fail
            clear F
            refine (stands_calls (d := d) (x := x) H6 (by repeat (with_reducible (first | exact At.here | apply At.there))) (((HOJ.out.2.2.cons _).cons _).cons _) HOK.out.1.2.1 HOK.out.1.1).mono ?_
            rintro e' wf ⟨rfl, Hf⟩
            clear H6
            have F := (Hf).facts; simp only [factsOf, Asr.facts, blkFacts, cellsAre, List.toList_toArray, forall_const, Nat.zero_add, Nat.reduceAdd, and_true, true_and] at F
            go_wp2_with fail
            clear F
            refine (stands_calls (d := e) (x := y) Hf (by repeat (with_reducible (first | exact At.here | apply At.there))) (((HOJ.out.2.1.cons _).cons _).cons _) HOJ.out.1.2.1 HOJ.out.1.1).mono ?_
            rintro e' wf ⟨rfl, Hg⟩
            clear Hf
            go_wp2
            go_ret
            exact ⟨by first | rfl | trivial, Hg.bel⟩
      · obtain ⟨g11, hg11⟩ : ∃ g11, g11 = wq.heap.size := ⟨_, rfl⟩
        have Hy := Hx
        clear Hx
        (rw [if_pos (by rfl)]; have F := (Hy).facts; simp only [factsOf, Asr.facts, blkFacts, cellsAre, List.toList_toArray, forall_const, Nat.zero_add, Nat.reduceAdd, and_true, true_and] at F; go_simp; refine Cx.genP (C := K _) (by (repeat (with_reducible (first | exact (Hy).toS | exact At.here | apply At.there | apply CxS.drewN | apply CxS.drew | apply CxS.alloc | apply CxS.set | apply CxS.setRow)))) (fun Wn Hn => ?_); clear F Hy; have Hy := Hn; clear Hn)
        (refine hK.out _ _ (Hy.blk (b := g7) (by repeat (with_reducible (first | exact At.here | apply At.there)))) (fun hH2_ => ?_); clear hK K hH_; have hH_ := hH2_; clear hH2_; try simp only [List.getElem_toArray, List.getElem_cons_succ, List.getElem_cons_zero, Act.put, List.setIfInBounds_toArray, List.set_cons_zero, List.set_cons_succ])
        rw [← hg11] at Hy ⊢
        clear hg11
        (refine wpAnyH_ready (rs := [1]) (by kernel_rfl) (by simp) ?_; refine AllReadyH.cons rfl (fun K hK => ?_) AllReadyH.nil; go_simp; go_at_call 27; refine (dk_copy (d := d) Hy (by repeat (with_reducible (first | exact At.here | apply At.there))) hlw).mono ?_; rintro e w' ⟨b2, rfl, Hz⟩; clear Hy; have Hy := Hz; clear Hz; (try go_simp); refine hK.out _ _ (Hy.blk (b := g7) (by repeat (with_reducible (first | exact At.here | apply At.there)))) (fun hH2_ => ?_); clear hK K hH_; have hH_ := hH2_; clear hH2_; try simp only [List.getElem_toArray, List.getElem_cons_succ, List.getElem_cons_zero, Act.put, List.setIfInBounds_toArray, List.set_cons_zero, List.set_cons_succ])
        (refine wpAnyH_take (i := 4) (v := ?_) rfl (by kernel_rfl) (by kernel_rfl) (by kernel_rfl) (fun _ _ _ h => h) (Or.inl ⟨by rfl, ?_⟩) hH_ ?_; rotate_left; (focus (intro w_ hSw_; go_simp; try (with_reducible rfl))); simp only [List.getElem_toArray, List.getElem_cons_succ, List.getElem_cons_zero, Act.put, List.setIfInBounds_toArray, List.set_cons_zero, List.set_cons_succ])
        (refine wpAnyH_ready (rs := [5]) (by kernel_rfl) (by simp) ?_; refine AllReadyH.cons rfl (fun K hK => ?_) AllReadyH.nil; have F := (Hy).facts; simp only [factsOf, Asr.facts, blkFacts, cellsAre, List.toList_toArray, forall_const, Nat.zero_add, Nat.reduceAdd, and_true, true_and] at F; go_simp; refine Cx.genP (C := K _) (by (repeat (with_reducible (first | exact (Hy).toS | exact At.here | apply At.there | apply CxS.drewN | apply CxS.drew | apply CxS.alloc | apply CxS.set | apply CxS.setRow)))) (fun Wn Hn => ?_); clear F Hy; have Hy := Hn; clear Hn; (try simp only [List.setIfInBounds_toArray, List.set_cons_zero, List.set_cons_succ] at Hy); refine hK.out _ _ (Hy.blk (b := g7) (by repeat (with_reducible (first | exact At.here | apply At.there)))) (fun hH2_ => ?_); clear hK K hH_; have hH_ := hH2_; clear hH2_; try simp only [List.getElem_toArray, List.getElem_cons_succ, List.getElem_cons_zero, Act.put, List.setIfInBounds_toArray, List.set_cons_zero, List.set_cons_succ])
        refine wpAnyH_done (by kernel_rfl) ?_ _
        clear hH_
        go_wp2_with fail
        go_loopw [48] (fun v48 wr => ∃ (k : Nat) (e : Dk) (y : Rf) (B1 : Option Addr) (p1 q1 : Nat) (B2 : Option Addr) (p2 q2 : Nat) (m6 : List Asr), k ≤ l1.length ∧ v48 = .int .i64 k ∧ Aside0 (PlayOk (l0.length + k) e y ∧ RfAt m6 y B1 p1 q1 B2 p2 q2 ∧ RfAt m6 x A1 n1 c1 A2 n2 c2) ∧ Cx w.heap.size w wr (.blk g11 (.cells (rfC B1 p1 q1 B2 p2 q2 y.steps y.left y.armed y.gone) 50 (0, 0)) :: .own dkR (.pointer (some ⟨b2, 0, none⟩)) e :: .own dkR (.pointer (some ⟨b, 0, none⟩)) d :: .blk g7 (.cells (rfC A1 n1 c1 A2 n2 c2 x.steps x.left x.armed x.gone) 50 (0, 0)) :: m6)) (fun v48 _ => l1.length - (intOf v48).toNat)
        case atStart => exact ⟨0, d, x, _, _, _, _, _, _, m5, by omega, rfl, ⟨HOK.out.1, HOK.out.2, HOK.out.2⟩, Hy⟩
        case round =>
          clear Hy
          obtain ⟨j, e, y, B1, p1, q1, B2, p2, q2, m6, hj, rfl, HOJ, H6⟩ := hrel
          by_cases hlt : j < l1.length
          · have h0 : (0 : Int) ≤ (j : Int) := by omega
            have h1 : (j : Int) < (l1.length : Int) := by omega
            obtain ⟨ad, A3, c3, rfl, t0, t1, t2, t3, hl3, g3⟩ := at_T36 HR1.out (j : Int) h0 h1
            obtain ⟨hf0, hf1, hmem⟩ := laminalaw02_full.ok_at HG1.out j hlt
            replace t0 := (H6.bel.cell (World.block_lt_of_cell? w _ t0)).trans t0
            replace t1 := (H6.bel.cell (World.block_lt_of_cell? w _ t1)).trans t1
            replace t2 := (H6.bel.cell (World.block_lt_of_cell? w _ t2)).trans t2
            replace t3 := (H6.bel.cell (World.block_lt_of_cell? w _ t3)).trans t3
            simp only [Int.toNat_natCast] at t0 t1 t2 t3
            obtain ⟨o, hx⟩ : ∃ o, o = rd_T36 l1 (j : Int) := ⟨_, rfl⟩
            rw [← hx] at t0 t1 t2 t3 hf0 hf1 g3
            have HF1 := Aside0.mk hf1
            have HG3 := Aside0.mk g3
            clear hx hmem hl3 g3 hf0 hf1
            have F := (H6).facts; simp only [factsOf, Asr.facts, blkFacts, cellsAre, List.toList_toArray, forall_const, Nat.zero_add, Nat.reduceAdd, and_true, true_and] at F
            go_wp2_with fail
            clear F
            ((first | apply Cx.genCall | apply Cx.genCode | apply Cx.genList); (focus ((repeat (with_reducible (first | exact (H6).toS | exact At.here | apply At.there | apply CxS.drewN | apply CxS.drew | apply CxS.alloc | apply CxS.set | apply CxS.setRow))))); clear H6; intro wc H7)
            (try simp only [List.setIfInBounds_toArray, List.set_cons_zero, List.set_cons_succ] at H7)
            clear t0 t1 t2 t3
            generalize wr.heap.size = g13 at *
            refine (do_calls (v := .pointer (some ⟨b2, 0, none⟩)) (d := e) (x := y) o A3 c3 HF1.out HG3.out H7 (by repeat (with_reducible (first | exact At.here | apply At.there))) ((((HOJ.out.2.1.cons _).cons _).cons _).cons _) HOJ.out.1.2.1 (by have := HOJ.out.1.2.2.2; omega)).mono ?_
            rintro e' wd ⟨A4, n4, c4, A5, n5, c5, ex2, rfl, H8, hr8⟩
            have H9 := ((((((H8.find (.there ((At.there At.here).app ex2))).drop (.there (.there (At.here.app ex2)))).find (.there (.there (At.here.app ex2)))).find (.there (.there (.there (At.here.app ex2))))).find (.there .here)).find (.there (.there (.there .here)))).find (.there (.there (.there .here)))
            have hr9 := hr8.skip.skip.skipD.skip
            have hrx := HOJ.out.2.2.app ex2
            have HOK2 := Aside0.mk (PlayOk.act HOJ.out.1 (by omega) o)
            clear H7 H8 hr8
            obtain ⟨d2, hd2⟩ : ∃ d2, d2 = actD e o := ⟨_, rfl⟩
            obtain ⟨x2, hx2⟩ : ∃ x2, x2 = actX y o := ⟨_, rfl⟩
            obtain ⟨m7, hm7⟩ : ∃ m7, m7 = ex2 ++ m6 := ⟨_, rfl⟩
            rw [← hd2, ← hm7] at H9
            rw [← hx2, ← hm7] at hr9
            rw [← hm7] at hrx
            rw [← hd2, ← hx2] at HOK2
            rw [← hx2]
            have HR2 := Aside0.mk hr9
            have HRX := Aside0.mk hrx
            clear hd2 hx2 hm7 hr9 hrx
            have F := (H9).facts; simp only [factsOf, Asr.facts, blkFacts, cellsAre, List.toList_toArray, forall_const, Nat.zero_add, Nat.reduceAdd, and_true, true_and] at F
            go_wp2_with fail
            clear F
            have Hx := ((((((H9.toS.set (b := g11) (by repeat (with_reducible (first | exact At.here | apply At.there))) 0 (.slice A4 n4 c4)).set (b := g11) (by repeat (with_reducible (first | exact At.here | apply At.there))) 1 (.slice A5 n5 c5)).set (b := g11) (by repeat (with_reducible (first | exact At.here | apply At.there))) 2 (.int .i64 x2.steps)).set (b := g11) (by repeat (with_reducible (first | exact At.here | apply At.there))) 3 (.int .i64 x2.left)).set (b := g11) (by repeat (with_reducible (first | exact At.here | apply At.there))) 4 (.bool x2.armed)).set (b := g11) (by repeat (with_reducible (first | exact At.here | apply At.there))) 5 (.bool x2.gone)).cx
            (try simp only [List.setIfInBounds_toArray, List.set_cons_zero, List.set_cons_succ] at Hx)
            exact ⟨⟨j + 1, d2, x2, _, _, _, _, _, _, m7, by omega, by go_num, ⟨HOK2.out, HR2.out, HRX.out⟩, Hx⟩, by simp [intOf]; omega⟩
          · obtain rfl : j = l1.length := by omega
            have F := (H6).facts; simp only [factsOf, Asr.facts, blkFacts, cellsAre, List.toList_toArray, forall_const, Nat.zero_add, Nat.reduceAdd, and_true, true_and] at F
            go_wp2_with fail
            clear F
            refine (stands_calls (d := d) (x := x) H6 (by repeat (with_reducible (first | exact At.here | apply At.there))) (((HOJ.out.2.2.cons _).cons _).cons _) HOK.out.1.2.1 HOK.out.1.1).mono ?_
            rintro e' wf ⟨rfl, Hf⟩
            clear H6
            have F := (Hf).facts; simp only [factsOf, Asr.facts, blkFacts, cellsAre, List.toList_toArray, forall_const, Nat.zero_add, Nat.reduceAdd, and_true, true_and] at F
            go_wp2_with fail
            clear F
            refine (stands_calls (d := e) (x := y) Hf (by repeat (with_reducible (first | exact At.here | apply At.there))) (((HOJ.out.2.1.cons _).cons _).cons _) HOJ.out.1.2.1 HOJ.out.1.1).mono ?_
            rintro e' wf ⟨rfl, Hg⟩
            clear Hf
            go_wp2
            go_ret
            exact ⟨by first | rfl | trivial, Hg.bel⟩

end Go.Proofs.Ytjoledofiindcaa.Hp
