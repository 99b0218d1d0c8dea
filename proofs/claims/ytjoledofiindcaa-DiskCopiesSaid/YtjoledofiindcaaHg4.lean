/- Contracts of functions of the given program, and what they lean on: written by this session's own program, out of hand texts laid into the kit's printer. -/
import Derived.Deep.MidRow
import Derived.Test.YtjoledofiindcaaHp0
import Derived.Test.YtjoledofiindcaaHg1
import Derived.Test.YtjoledofiindcaaHg2
import Derived.Test.YtjoledofiindcaaHg3
namespace Go.Proofs.Ytjoledofiindcaa.Hp
open Go.RowKit Go.Proofs.YtjoledofiindcaaW.PrintWords Go.Proofs.YtjoledofiindcaaW.PrintLast Go.Proofs.YtjoledofiindcaaW.PrintMore
attribute [local go_sem] max2_int min2_int max_two min_two max_three min_three max_four min_four   -- for this text's walks alone
set_option linter.unusedVariables false
set_option linter.unusedSimpArgs false

/-! ### laminalaw02_do: function 22 -/
-- needs: rf_put rf_flush rf_crashW rf_read RfAt dk_write dk_flush dk_crash dk_arm dk_read dk_full
theorem step_load_mid {P : Program} {ops : Array Oper} {o : Oper} {a : Act} {w : World} {K : Act → World → Prop} {Q : Exit → Act → World → Prop} (hw : Region.wanted o (yielded ops a.tmps) = true) (ty : TypeId) (x : Operand) (ho : o.op = .load ty x)
    (b off : Nat) (hx : a.eval x = .pointer (some ⟨b, off, none⟩)) (cs : List Value) (d : TypeDesc) (hc : w.rangeAt b off cs) (hu : P.underlying ty = some d) (hd : d.isRow = true) (hi : (P.info? ty).map (·.size) = some cs.length)
    (h : K (a.put o.dst (.agg cs.toArray)) w) : if Region.wanted o (yielded ops a.tmps) = true then o.wp P a w K Q else K (a.put o.dst undef) w := by
  rw [if_pos hw]
  exact wp_load_mid ty x ho b off hx cs d hc hu hd hi h
theorem rangeAt_blk {W : World} {g t : Nat} {fr : Nat × Nat} {cs : Array Value} (h : W.heap[g]? = some (.cells cs t fr)) : W.rangeAt g 0 cs.toList := fun j v hv => by
  rw [cell_of h, Nat.zero_add]; simpa using hv
def numI (e : Option Int) : Int := (laminanum_Num.f e).getD 0
theorem num_calls (e : Option Int) (w : World) : Calls Try.prog 38 #[errW e] w fun x w' => x = .returned (.int .i64 (numI e)) ∧ Drawn0 w w' :=
  laminanum_Num.calls e _ w (by
    unfold numI laminanum_Num.f
    (repeat' split) <;> rfl)
/-- An act by the disk. -/
def actD (d : Dk) (o : S36) : Dk := if o.f0 = 1 then d.write o.f1 (fullS o.f2) else if o.f0 = 2 then d.flush else if o.f0 = 4 then d.arm o.f1 else if o.f0 = 5 then d.crash o.f3 else d
/-- An act by the document's disk. -/
def actX (x : Rf) (o : S36) : Rf := if o.f0 = 1 then (x.put o.f1 (fullS o.f2)).1 else if o.f0 = 2 then x.flush.1 else if o.f0 = 4 then (x.arm o.f1).1 else if o.f0 = 5 then x.crash o.f3 else x
/-- Do they answer alike? -/
def actB (d : Dk) (x : Rf) (o : S36) : Bool := if o.f0 = 1 then numI (d.writeE o.f1) == (x.put o.f1 (fullS o.f2)).2 else if o.f0 = 2 then numI d.offE == x.flush.2 else if o.f0 = 4 then numI (if o.f1 < 0 then some 1 else none) == (x.arm o.f1).2 else if o.f0 = 5 then numI none == 0
  else (numI (d.read o.f1).2 == (x.readL o.f1).2 && decide ((d.read o.f1).1 = (x.readL o.f1).1))
section
variable {w0 w : World} {m r : List Asr} {v : Value} {d : Dk} {x : Rf} {A1 : Option Addr} {n1 c1 : Nat} {A2 : Option Addr} {n2 c2 : Nat} (o : S36) (A : Option Addr) (c : Nat) (hf1 : (Lit.int .i64 o.f1).wf = true) (hkeep : Kd.C Kd.bool w0 A o.f3.length o.f3)
  (H : Cx w0.heap.size w0 w m) (k : At m (.own dkR v d) r) (h : RfAt r x A1 n1 c1 A2 n2 c2) (hg : x.Good) (hl : d.cnt + d.waiting.length < 100000)
set_option maxRecDepth 100000 in
set_option maxHeartbeats 8000000 in
include hf1 H k h hg hl in
theorem laminalaw02_do.write (hk : o.f0 = 1) : Calls Try.prog 22 #[v, .agg (rfC A1 n1 c1 A2 n2 c2 x.steps x.left x.armed x.gone), .agg #[.int .i64 o.f0, .int .i64 o.f1, .int .u8 o.f2, .slice A o.f3.length c]] w fun e w1 => ∃ (A1 : Option Addr) (n1 c1 : Nat) (A2 : Option Addr) (n2 c2 : Nat) (ex : List Asr), e = .returned (.tuple #[.agg (rfC A1 n1 c1 A2 n2 c2 ((x.put o.f1 (fullS o.f2)).1).steps ((x.put o.f1 (fullS o.f2)).1).left ((x.put o.f1 (fullS o.f2)).1).armed ((x.put o.f1 (fullS o.f2)).1).gone), .bool (numI (d.writeE o.f1) == (x.put o.f1 (fullS o.f2)).2)]) ∧ Cx w0.heap.size w0 w1 (.own dkR v (d.write o.f1 (fullS o.f2)) :: (ex ++ r)) ∧ RfAt (ex ++ r) ((x.put o.f1 (fullS o.f2)).1) A1 n1 c1 A2 n2 c2 := by
  have h26 := Try.underlying26
  have h28 := Try.underlying28
  have hu36 := Try.underlying36
  have hu50 := Try.underlying50
  have H0 := H.find k
  clear H k
  obtain ⟨f0, f1, f2, f3⟩ := o
  dsimp only at *
  subst hk
  have HF1 := Aside0.mk hf1
  have HL := Aside0.mk hl
  have HG := Aside0.mk hg
  have HR := Aside0.mk h
  clear hf1 hl hg h
  go_enter Try.func22, Try.ntmps22
  go_wp2_with fail
  ((first | apply Cx.genCall | apply Cx.genCode | apply Cx.genList); (focus ((repeat (with_reducible (first | exact (H0).toS | exact At.here | apply At.there | apply CxS.drewN | apply CxS.drew | apply CxS.alloc | apply CxS.set | apply CxS.setRow))))); clear H0; intro wa Ha)
  try simp only [List.setIfInBounds_toArray, List.set_cons_zero, List.set_cons_succ] at Ha
  have Hx0 := (Ha.toS.drew).cx
  clear Ha
  refine wp_region_held_drew (S := fun W => W.heap[w.heap.size + 1]? = some (.cells #[.int .i64 1, .int .i64 f1, .int .u8 f2, .slice A f3.length c] 36 (0, 0))) (by kernel_rfl) (Hx0.blk (by repeat (with_reducible (first | exact At.here | apply At.there)))) (fun hH_ => ?_)
  (refine wpAnyH_take (i := 0) (v := ?_) rfl (by kernel_rfl) (by kernel_rfl) (by kernel_rfl) (fun _ _ _ h => h) (Or.inl ⟨by rfl, ?_⟩) hH_ ?_; rotate_left; (focus (intro w_ hSw_; go_simp; try (with_reducible rfl))); simp only [List.getElem_toArray, List.getElem_cons_succ, List.getElem_cons_zero, Act.put, List.setIfInBounds_toArray, List.set_cons_zero, List.set_cons_succ])
  (refine wpAnyH_take (i := 1) (v := ?_) rfl (by kernel_rfl) (by kernel_rfl) (by kernel_rfl) (fun _ _ _ h => h) (Or.inl ⟨by rfl, ?_⟩) hH_ ?_; rotate_left; (focus (intro w_ hSw_; go_simp; try (with_reducible rfl))); simp only [List.getElem_toArray, List.getElem_cons_succ, List.getElem_cons_zero, Act.put, List.setIfInBounds_toArray, List.set_cons_zero, List.set_cons_succ])
  (refine wpAnyH_take (i := 2) rfl (by kernel_rfl) (by kernel_rfl) (by kernel_rfl) (fun _ _ _ h => h) (yieldsIf_load_cell (by rfl) 3 (.tmp 39) rfl (w.heap.size + 1) (1) rfl (.int .i64 f1) (run_isAgg_plain Try.underlying3 rfl) (fun W h => (cell_of h 1).trans rfl)) hH_ ?_; simp only [List.getElem_toArray, List.getElem_cons_succ, List.getElem_cons_zero, Act.put, List.setIfInBounds_toArray, List.set_cons_zero, List.set_cons_succ])
  (refine wpAnyH_take (i := 3) (v := ?_) rfl (by kernel_rfl) (by kernel_rfl) (by kernel_rfl) (fun _ _ _ h => h) (Or.inl ⟨by rfl, ?_⟩) hH_ ?_; rotate_left; (focus (intro w_ hSw_; go_simp; try (with_reducible rfl))); simp only [List.getElem_toArray, List.getElem_cons_succ, List.getElem_cons_zero, Act.put, List.setIfInBounds_toArray, List.set_cons_zero, List.set_cons_succ])
  (refine wpAnyH_take (i := 4) rfl (by kernel_rfl) (by kernel_rfl) (by kernel_rfl) (fun _ _ _ h => h) (yieldsIf_load_cell (by rfl) 5 (.tmp 41) rfl (w.heap.size + 1) (2) rfl (.int .u8 f2) (run_isAgg_plain Try.underlying5 rfl) (fun W h => (cell_of h 2).trans rfl)) hH_ ?_; simp only [List.getElem_toArray, List.getElem_cons_succ, List.getElem_cons_zero, Act.put, List.setIfInBounds_toArray, List.set_cons_zero, List.set_cons_succ])
  (refine wpAnyH_ready (rs := [5]) (by kernel_rfl) (by simp) ?_; refine AllReadyH.cons rfl (fun K hK => ?_) AllReadyH.nil; go_simp; go_at_call 13; refine (dk_full f2 _).mono ?_; rintro e w' ⟨rfl, hb⟩; have Hx1 := Hx0.below hb; clear Hx0 hb; (try go_simp); refine hK.out _ _ (Hx1.blk (by repeat (with_reducible (first | exact At.here | apply At.there)))) (fun hH2_ => ?_); clear hK K hH_; have hH_ := hH2_; clear hH2_; try simp only [List.getElem_toArray, List.getElem_cons_succ, List.getElem_cons_zero, Act.put, List.setIfInBounds_toArray, List.set_cons_zero, List.set_cons_succ])
  (refine wpAnyH_ready (rs := [6]) (by kernel_rfl) (by simp) ?_; refine AllReadyH.cons rfl (fun K hK => ?_) AllReadyH.nil; go_simp; go_at_call 12; refine (dk_write (d := d) f1 (fullS f2) HF1.out Hx1 (by repeat (with_reducible (first | exact At.here | apply At.there))) (fullS_len _) (by have := HL.out; omega)).mono ?_; rintro e w' ⟨rfl, Hx2⟩; clear Hx1; (try go_simp); refine hK.out _ _ (Hx2.blk (by repeat (with_reducible (first | exact At.here | apply At.there)))) (fun hH2_ => ?_); clear hK K hH_; have hH_ := hH2_; clear hH2_; try simp only [List.getElem_toArray, List.getElem_cons_succ, List.getElem_cons_zero, Act.put, List.setIfInBounds_toArray, List.set_cons_zero, List.set_cons_succ])
  (refine wpAnyH_take (i := 7) (v := ?_) rfl (by kernel_rfl) (by kernel_rfl) (by kernel_rfl) (fun _ _ _ h => h) (Or.inl ⟨by rfl, ?_⟩) hH_ ?_; rotate_left; (focus (intro w_ hSw_; go_simp; try (with_reducible rfl))); simp only [List.getElem_toArray, List.getElem_cons_succ, List.getElem_cons_zero, Act.put, List.setIfInBounds_toArray, List.set_cons_zero, List.set_cons_succ])
  refine wpAnyH_done (by kernel_rfl) ?_ _
  clear hH_
  go_wp2_with fail
  have Hy0 := (Hx2.toS.drew).cx
  clear Hx2
  refine wp_region_held_drew (S := fun W => W.heap[w.heap.size + 1]? = some (.cells #[.int .i64 1, .int .i64 f1, .int .u8 f2, .slice A f3.length c] 36 (0, 0))) (by kernel_rfl) (Hy0.blk (by repeat (with_reducible (first | exact At.here | apply At.there)))) (fun hH_ => ?_)
  (refine wpAnyH_take (i := 1) (v := ?_) rfl (by kernel_rfl) (by kernel_rfl) (by kernel_rfl) (fun _ _ _ h => h) (Or.inl ⟨by rfl, ?_⟩) hH_ ?_; rotate_left; (focus (intro w_ hSw_; go_simp; try (with_reducible rfl))); simp only [List.getElem_toArray, List.getElem_cons_succ, List.getElem_cons_zero, Act.put, List.setIfInBounds_toArray, List.set_cons_zero, List.set_cons_succ])
  (refine wpAnyH_take (i := 2) rfl (by kernel_rfl) (by kernel_rfl) (by kernel_rfl) (fun _ _ _ h => h) (yieldsIf_load_cell (by rfl) 3 (.tmp 47) rfl (w.heap.size + 1) (1) rfl (.int .i64 f1) (run_isAgg_plain Try.underlying3 rfl) (fun W h => (cell_of h 1).trans rfl)) hH_ ?_; simp only [List.getElem_toArray, List.getElem_cons_succ, List.getElem_cons_zero, Act.put, List.setIfInBounds_toArray, List.set_cons_zero, List.set_cons_succ])
  (refine wpAnyH_take (i := 3) (v := ?_) rfl (by kernel_rfl) (by kernel_rfl) (by kernel_rfl) (fun _ _ _ h => h) (Or.inl ⟨by rfl, ?_⟩) hH_ ?_; rotate_left; (focus (intro w_ hSw_; go_simp; try (with_reducible rfl))); simp only [List.getElem_toArray, List.getElem_cons_succ, List.getElem_cons_zero, Act.put, List.setIfInBounds_toArray, List.set_cons_zero, List.set_cons_succ])
  (refine wpAnyH_take (i := 4) rfl (by kernel_rfl) (by kernel_rfl) (by kernel_rfl) (fun _ _ _ h => h) (yieldsIf_load_cell (by rfl) 5 (.tmp 49) rfl (w.heap.size + 1) (2) rfl (.int .u8 f2) (run_isAgg_plain Try.underlying5 rfl) (fun W h => (cell_of h 2).trans rfl)) hH_ ?_; simp only [List.getElem_toArray, List.getElem_cons_succ, List.getElem_cons_zero, Act.put, List.setIfInBounds_toArray, List.set_cons_zero, List.set_cons_succ])
  refine wpAnyH_ready (rs := [0, 5]) (by kernel_rfl) (by simp) ?_
  refine AllReadyH.cons rfl (fun K hK => ?_) (AllReadyH.cons rfl (fun K hK => ?_) AllReadyH.nil)
  · refine step_load_mid rfl 50 (.tmp 4) rfl w.heap.size 0 rfl [.slice A1 n1 c1, .slice A2 n2 c2, .int .i64 x.steps, .int .i64 x.left, .bool x.armed, .bool x.gone] _ (rangeAt_blk ((Hy0).blk (b := w.heap.size) (o := .cells (rfC A1 n1 c1 A2 n2 c2 x.steps x.left x.armed x.gone) 50 (0, 0)) (by repeat (with_reducible (first | exact At.here | apply At.there))))) hu50 rfl rf_info ?_
    (refine hK.out _ _ (Hy0.blk (by repeat (with_reducible (first | exact At.here | apply At.there)))) (fun hH2_ => ?_); clear hK K hH_; have hH_ := hH2_; clear hH2_; simp only [List.getElem_toArray, List.getElem_cons_succ, List.getElem_cons_zero, Act.put, List.setIfInBounds_toArray, List.set_cons_zero, List.set_cons_succ])
    (refine wpAnyH_ready (rs := [5]) (by kernel_rfl) (by simp) ?_; refine AllReadyH.cons rfl (fun K hK => ?_) AllReadyH.nil; go_simp; go_at_call 13; refine (dk_full f2 _).mono ?_; rintro e w' ⟨rfl, hb⟩; have Hy1 := Hy0.below hb; clear Hy0 hb; (try go_simp); refine hK.out _ _ (Hy1.blk (by repeat (with_reducible (first | exact At.here | apply At.there)))) (fun hH2_ => ?_); clear hK K hH_; have hH_ := hH2_; clear hH2_; try simp only [List.getElem_toArray, List.getElem_cons_succ, List.getElem_cons_zero, Act.put, List.setIfInBounds_toArray, List.set_cons_zero, List.set_cons_succ])
    (refine wpAnyH_ready (rs := [6]) (by kernel_rfl) (by simp) ?_; refine AllReadyH.cons rfl (fun K hK => ?_) AllReadyH.nil; go_simp; go_at_call 34; refine (rf_put (x := x) f1 (fullS f2) (fullS_len _) Hy1.tail.tail.tail.tail HR.out HG.out).mono ?_; rintro e w' ⟨A3, n3, c3, A4, n4, c4, ex, rfl, hj, hr3⟩; have Hy := (Hy1.join hj).front4 ex; have HR3 := Aside0.mk hr3; clear Hy1 hj hr3; (try go_simp); refine hK.out _ _ (Hy.blk (by repeat (with_reducible (first | exact At.here | apply At.there)))) (fun hH2_ => ?_); clear hK K hH_; have hH_ := hH2_; clear hH2_; try simp only [List.getElem_toArray, List.getElem_cons_succ, List.getElem_cons_zero, Act.put, List.setIfInBounds_toArray, List.set_cons_zero, List.set_cons_succ])
    (refine wpAnyH_take (i := 7) (v := ?_) rfl (by kernel_rfl) (by kernel_rfl) (by kernel_rfl) (fun _ _ _ h => h) (Or.inl ⟨by rfl, ?_⟩) hH_ ?_; rotate_left; (focus (intro w_ hSw_; go_simp; try (with_reducible rfl))); simp only [List.getElem_toArray, List.getElem_cons_succ, List.getElem_cons_zero, Act.put, List.setIfInBounds_toArray, List.set_cons_zero, List.set_cons_succ])
    (refine wpAnyH_take (i := 8) (v := ?_) rfl (by kernel_rfl) (by kernel_rfl) (by kernel_rfl) (fun _ _ _ h => h) (Or.inl ⟨by rfl, ?_⟩) hH_ ?_; rotate_left; (focus (intro w_ hSw_; go_simp; try (with_reducible rfl))); simp only [List.getElem_toArray, List.getElem_cons_succ, List.getElem_cons_zero, Act.put, List.setIfInBounds_toArray, List.set_cons_zero, List.set_cons_succ])
    (refine wpAnyH_take (i := 9) (v := ?_) rfl (by kernel_rfl) (by kernel_rfl) (by kernel_rfl) (fun _ _ _ h => h) (Or.inl ⟨by rfl, ?_⟩) hH_ ?_; rotate_left; (focus (intro w_ hSw_; go_simp; try (with_reducible rfl))); simp only [List.getElem_toArray, List.getElem_cons_succ, List.getElem_cons_zero, Act.put, List.setIfInBounds_toArray, List.set_cons_zero, List.set_cons_succ])
    (refine wpAnyH_ready (rs := [10]) (by kernel_rfl) (by simp) ?_; refine AllReadyH.cons rfl (fun K hK => ?_) AllReadyH.nil; have F := (Hy).facts; simp only [factsOf, Asr.facts, blkFacts, cellsAre, List.toList_toArray, forall_const, Nat.zero_add, Nat.reduceAdd, and_true, true_and] at F; go_simp; refine Cx.genP (C := K _) (by (repeat (with_reducible (first | exact (Hy).toS | exact At.here | apply At.there | apply CxS.drewN | apply CxS.drew | apply CxS.alloc | apply CxS.set | apply CxS.setRow)))) (fun Wn Hn => ?_); clear F Hy; have Hy := Hn; clear Hn; (try simp only [List.setIfInBounds_toArray, List.set_cons_zero, List.set_cons_succ] at Hy); refine hK.out _ _ (Hy.blk (by repeat (with_reducible (first | exact At.here | apply At.there)))) (fun hH2_ => ?_); clear hK K hH_; have hH_ := hH2_; clear hH2_; try simp only [List.getElem_toArray, List.getElem_cons_succ, List.getElem_cons_zero, Act.put, List.setIfInBounds_toArray, List.set_cons_zero, List.set_cons_succ])
    (refine wpAnyH_take (i := 11) (v := ?_) rfl (by kernel_rfl) (by kernel_rfl) (by kernel_rfl) (fun _ _ _ h => h) (Or.inl ⟨by rfl, ?_⟩) hH_ ?_; rotate_left; (focus (intro w_ hSw_; go_simp; try (with_reducible rfl))); simp only [List.getElem_toArray, List.getElem_cons_succ, List.getElem_cons_zero, Act.put, List.setIfInBounds_toArray, List.set_cons_zero, List.set_cons_succ])
    refine wpAnyH_done (by kernel_rfl) ?_ _
    clear hH_
    obtain ⟨y, hy⟩ : ∃ y, y = (x.put f1 (fullS f2)).1 := ⟨_, rfl⟩
    rw [← hy] at HR3 Hy ⊢
    have HY := Aside0.mk hy
    clear hy
    obtain ⟨bad, hbad⟩ : ∃ bad, bad = (x.put f1 (fullS f2)).2 := ⟨_, rfl⟩
    rw [← hbad]
    have HB := Aside0.mk hbad
    clear hbad
    (try (go_wp2_with fail))
    have Hz := (Hy.toS.drew).cx
    clear Hy
    refine wp_region_held_drew (S := fun W => W.heap[w.heap.size]? = some (.cells (rfC A3 n3 c3 A4 n4 c4 y.steps y.left y.armed y.gone) 50 (0, 0))) (by kernel_rfl) (Hz.blk (by repeat (with_reducible (first | exact At.here | apply At.there)))) (fun hH_ => ?_)
    generalize Wn.drew = Wz at *
    (refine wpAnyH_take (i := 0) rfl (by kernel_rfl) (by kernel_rfl) (by kernel_rfl) (fun _ _ _ h => h) (yieldsIf_load_mid (by rfl) 50 (.tmp 4) rfl (w.heap.size) (0) rfl ([.slice A3 n3 c3, .slice A4 n4 c4, .int .i64 y.steps, .int .i64 y.left, .bool y.armed, .bool y.gone]) _ (fun W h => rangeAt_blk h) Try.underlying50 rfl (rf_info)) hH_ ?_; simp only [List.getElem_toArray, List.getElem_cons_succ, List.getElem_cons_zero, Act.put, List.setIfInBounds_toArray, List.set_cons_zero, List.set_cons_succ])
    (refine wpAnyH_take (i := 1) (v := ?_) rfl (by kernel_rfl) (by kernel_rfl) (by kernel_rfl) (fun _ _ _ h => h) (Or.inl ⟨by rfl, ?_⟩) hH_ ?_; rotate_left; (focus (intro w_ hSw_; go_simp; try (with_reducible rfl))); simp only [List.getElem_toArray, List.getElem_cons_succ, List.getElem_cons_zero, Act.put, List.setIfInBounds_toArray, List.set_cons_zero, List.set_cons_succ])
    (refine wpAnyH_take (i := 3) (v := ?_) rfl (by kernel_rfl) (by kernel_rfl) (by kernel_rfl) (fun _ _ _ h => h) (Or.inl ⟨by rfl, ?_⟩) hH_ ?_; rotate_left; (focus (intro w_ hSw_; go_simp; try (with_reducible rfl))); simp only [List.getElem_toArray, List.getElem_cons_succ, List.getElem_cons_zero, Act.put, List.setIfInBounds_toArray, List.set_cons_zero, List.set_cons_succ])
    cases hq : (numI (d.writeE f1) == bad)
    · (refine wpAnyH_ready (rs := [2]) (by kernel_rfl) (by simp) ?_; refine AllReadyH.cons rfl (fun K hK => ?_) AllReadyH.nil; go_simp; go_at_call 38; refine (num_calls (d.writeE f1) _).mono ?_; rintro e w' ⟨rfl, ⟨nn_, rfl⟩⟩; have Hy := (Hz.toS.drewN nn_).cx; clear Hz; (try go_simp); refine hK.out _ _ (Hy.blk (by repeat (with_reducible (first | exact At.here | apply At.there)))) (fun hH2_ => ?_); clear hK K hH_; have hH_ := hH2_; clear hH2_; try simp only [List.getElem_toArray, List.getElem_cons_succ, List.getElem_cons_zero, Act.put, List.setIfInBounds_toArray, List.set_cons_zero, List.set_cons_succ])
      (refine wpAnyH_take (i := 4) (v := ?_) rfl (by kernel_rfl) (by kernel_rfl) (by kernel_rfl) (fun _ _ _ h => h) (Or.inl ⟨by rfl, ?_⟩) hH_ ?_; rotate_left; (focus (intro w_ hSw_; go_simp; try (with_reducible rfl))); simp only [List.getElem_toArray, List.getElem_cons_succ, List.getElem_cons_zero, Act.put, List.setIfInBounds_toArray, List.set_cons_zero, List.set_cons_succ])
      try rw [hq]
      (refine wpAnyH_take (i := 5) (v := ?_) rfl (by kernel_rfl) (by kernel_rfl) (by kernel_rfl) (fun _ _ _ h => h) (Or.inl ⟨by rfl, ?_⟩) hH_ ?_; rotate_left; (focus (intro w_ hSw_; go_simp; try (with_reducible rfl))); simp only [List.getElem_toArray, List.getElem_cons_succ, List.getElem_cons_zero, Act.put, List.setIfInBounds_toArray, List.set_cons_zero, List.set_cons_succ])
      (refine wpAnyH_take (i := 6) (v := undef) rfl (by kernel_rfl) (by kernel_rfl) (by kernel_rfl) (fun _ _ _ h => h) (Or.inr ⟨by rfl, rfl⟩) hH_ ?_; simp only [List.getElem_toArray, List.getElem_cons_succ, List.getElem_cons_zero, Act.put, List.setIfInBounds_toArray, List.set_cons_zero, List.set_cons_succ])
      (refine wpAnyH_take (i := 7) (v := ?_) rfl (by kernel_rfl) (by kernel_rfl) (by kernel_rfl) (fun _ _ _ h => h) (Or.inl ⟨by rfl, ?_⟩) hH_ ?_; rotate_left; (focus (intro w_ hSw_; go_simp; try (with_reducible rfl))); simp only [List.getElem_toArray, List.getElem_cons_succ, List.getElem_cons_zero, Act.put, List.setIfInBounds_toArray, List.set_cons_zero, List.set_cons_succ])
      (refine wpAnyH_ready (rs := [8]) (by kernel_rfl) (by simp) ?_; refine AllReadyH.cons rfl (fun K hK => ?_) AllReadyH.nil; have F := (Hy).facts; simp only [factsOf, Asr.facts, blkFacts, cellsAre, List.toList_toArray, forall_const, Nat.zero_add, Nat.reduceAdd, and_true, true_and] at F; go_simp; refine Cx.genP (C := K _) (by (repeat (with_reducible (first | exact (Hy).toS | exact At.here | apply At.there | apply CxS.drewN | apply CxS.drew | apply CxS.alloc | apply CxS.set | apply CxS.setRow)))) (fun Wn Hn => ?_); clear F Hy; have Hy := Hn; clear Hn; (try simp only [List.setIfInBounds_toArray, List.set_cons_zero, List.set_cons_succ] at Hy); refine hK.out _ _ (Hy.blk (by repeat (with_reducible (first | exact At.here | apply At.there)))) (fun hH2_ => ?_); clear hK K hH_; have hH_ := hH2_; clear hH2_; try simp only [List.getElem_toArray, List.getElem_cons_succ, List.getElem_cons_zero, Act.put, List.setIfInBounds_toArray, List.set_cons_zero, List.set_cons_succ])
      (refine wpAnyH_take (i := 9) (v := ?_) rfl (by kernel_rfl) (by kernel_rfl) (by kernel_rfl) (fun _ _ _ h => h) (Or.inl ⟨by rfl, ?_⟩) hH_ ?_; rotate_left; (focus (intro w_ hSw_; go_simp; try (with_reducible rfl))); simp only [List.getElem_toArray, List.getElem_cons_succ, List.getElem_cons_zero, Act.put, List.setIfInBounds_toArray, List.set_cons_zero, List.set_cons_succ])
      refine wpAnyH_done (by kernel_rfl) ?_ _
      clear hH_; have F := (Hy).facts; simp only [factsOf, Asr.facts, blkFacts, cellsAre, List.toList_toArray, forall_const, Nat.zero_add, Nat.reduceAdd, and_true, true_and] at F; go_wp2; ((try simp only [Exit.inBlock, Exit.then]); (apply Cx.atPost); (focus ((repeat (with_reducible (first | exact (Hy).toS | exact At.here | apply At.there | apply CxS.drewN | apply CxS.drew | apply CxS.alloc | apply CxS.set | apply CxS.setRow))))); intro HT); (try simp only [List.setIfInBounds_toArray, List.set_cons_zero, List.set_cons_succ] at HT); (try rw [← HY.out]); (try rw [← HB.out]); (try rw [← HSB.out]); rw [hq]; exact bodyPost_ret (results_ct rfl _ _ (w.heap.size + 1 + 1) _ (rfC A3 n3 c3 A4 n4 c4 y.steps y.left y.armed y.gone) (0, 0) _ rfl (HT.blk (b := w.heap.size + 1 + 1) (by repeat (with_reducible (first | exact At.here | apply At.there)))) Try.underlying50 rfl rf_info) rfl ⟨A3, n3, c3, A4, n4, c4, ex, by first | rfl | trivial, (((HT.drop (a := .blk w.heap.size _) (by repeat (with_reducible (first | exact At.here | apply At.there)))).drop (a := .blk (w.heap.size + 1) _) (by repeat (with_reducible (first | exact At.here | apply At.there)))).drop (a := .blk (w.heap.size + 1 + 1) _) (by repeat (with_reducible (first | exact At.here | apply At.there)))).find (a := .own dkR v _) (by repeat (with_reducible (first | exact At.here | apply At.there))), HR3.out⟩
    · (refine wpAnyH_ready (rs := [2]) (by kernel_rfl) (by simp) ?_; refine AllReadyH.cons rfl (fun K hK => ?_) AllReadyH.nil; go_simp; go_at_call 38; refine (num_calls (d.writeE f1) _).mono ?_; rintro e w' ⟨rfl, ⟨nn_, rfl⟩⟩; have Hy := (Hz.toS.drewN nn_).cx; clear Hz; (try go_simp); refine hK.out _ _ (Hy.blk (by repeat (with_reducible (first | exact At.here | apply At.there)))) (fun hH2_ => ?_); clear hK K hH_; have hH_ := hH2_; clear hH2_; try simp only [List.getElem_toArray, List.getElem_cons_succ, List.getElem_cons_zero, Act.put, List.setIfInBounds_toArray, List.set_cons_zero, List.set_cons_succ])
      (refine wpAnyH_take (i := 4) (v := ?_) rfl (by kernel_rfl) (by kernel_rfl) (by kernel_rfl) (fun _ _ _ h => h) (Or.inl ⟨by rfl, ?_⟩) hH_ ?_; rotate_left; (focus (intro w_ hSw_; go_simp; try (with_reducible rfl))); simp only [List.getElem_toArray, List.getElem_cons_succ, List.getElem_cons_zero, Act.put, List.setIfInBounds_toArray, List.set_cons_zero, List.set_cons_succ])
      try rw [hq]
      (refine wpAnyH_take (i := 5) (v := ?_) rfl (by kernel_rfl) (by kernel_rfl) (by kernel_rfl) (fun _ _ _ h => h) (Or.inl ⟨by rfl, ?_⟩) hH_ ?_; rotate_left; (focus (intro w_ hSw_; go_simp; try (with_reducible rfl))); simp only [List.getElem_toArray, List.getElem_cons_succ, List.getElem_cons_zero, Act.put, List.setIfInBounds_toArray, List.set_cons_zero, List.set_cons_succ])
      (refine wpAnyH_take (i := 6) (v := ?_) rfl (by kernel_rfl) (by kernel_rfl) (by kernel_rfl) (fun _ _ _ h => h) (Or.inl ⟨by rfl, ?_⟩) hH_ ?_; rotate_left; (focus (intro w_ hSw_; go_simp; try (with_reducible rfl))); simp only [List.getElem_toArray, List.getElem_cons_succ, List.getElem_cons_zero, Act.put, List.setIfInBounds_toArray, List.set_cons_zero, List.set_cons_succ])
      (refine wpAnyH_take (i := 7) (v := ?_) rfl (by kernel_rfl) (by kernel_rfl) (by kernel_rfl) (fun _ _ _ h => h) (Or.inl ⟨by rfl, ?_⟩) hH_ ?_; rotate_left; (focus (intro w_ hSw_; go_simp; try (with_reducible rfl))); simp only [List.getElem_toArray, List.getElem_cons_succ, List.getElem_cons_zero, Act.put, List.setIfInBounds_toArray, List.set_cons_zero, List.set_cons_succ])
      (refine wpAnyH_ready (rs := [8]) (by kernel_rfl) (by simp) ?_; refine AllReadyH.cons rfl (fun K hK => ?_) AllReadyH.nil; have F := (Hy).facts; simp only [factsOf, Asr.facts, blkFacts, cellsAre, List.toList_toArray, forall_const, Nat.zero_add, Nat.reduceAdd, and_true, true_and] at F; go_simp; refine Cx.genP (C := K _) (by (repeat (with_reducible (first | exact (Hy).toS | exact At.here | apply At.there | apply CxS.drewN | apply CxS.drew | apply CxS.alloc | apply CxS.set | apply CxS.setRow)))) (fun Wn Hn => ?_); clear F Hy; have Hy := Hn; clear Hn; (try simp only [List.setIfInBounds_toArray, List.set_cons_zero, List.set_cons_succ] at Hy); refine hK.out _ _ (Hy.blk (by repeat (with_reducible (first | exact At.here | apply At.there)))) (fun hH2_ => ?_); clear hK K hH_; have hH_ := hH2_; clear hH2_; try simp only [List.getElem_toArray, List.getElem_cons_succ, List.getElem_cons_zero, Act.put, List.setIfInBounds_toArray, List.set_cons_zero, List.set_cons_succ])
      (refine wpAnyH_take (i := 9) (v := ?_) rfl (by kernel_rfl) (by kernel_rfl) (by kernel_rfl) (fun _ _ _ h => h) (Or.inl ⟨by rfl, ?_⟩) hH_ ?_; rotate_left; (focus (intro w_ hSw_; go_simp; try (with_reducible rfl))); simp only [List.getElem_toArray, List.getElem_cons_succ, List.getElem_cons_zero, Act.put, List.setIfInBounds_toArray, List.set_cons_zero, List.set_cons_succ])
      refine wpAnyH_done (by kernel_rfl) ?_ _
      clear hH_; have F := (Hy).facts; simp only [factsOf, Asr.facts, blkFacts, cellsAre, List.toList_toArray, forall_const, Nat.zero_add, Nat.reduceAdd, and_true, true_and] at F; go_wp2; ((try simp only [Exit.inBlock, Exit.then]); (apply Cx.atPost); (focus ((repeat (with_reducible (first | exact (Hy).toS | exact At.here | apply At.there | apply CxS.drewN | apply CxS.drew | apply CxS.alloc | apply CxS.set | apply CxS.setRow))))); intro HT); (try simp only [List.setIfInBounds_toArray, List.set_cons_zero, List.set_cons_succ] at HT); (try rw [← HY.out]); (try rw [← HB.out]); (try rw [← HSB.out]); rw [hq]; exact bodyPost_ret (results_ct rfl _ _ (w.heap.size + 1 + 1) _ (rfC A3 n3 c3 A4 n4 c4 y.steps y.left y.armed y.gone) (0, 0) _ rfl (HT.blk (b := w.heap.size + 1 + 1) (by repeat (with_reducible (first | exact At.here | apply At.there)))) Try.underlying50 rfl rf_info) rfl ⟨A3, n3, c3, A4, n4, c4, ex, by first | rfl | trivial, (((HT.drop (a := .blk w.heap.size _) (by repeat (with_reducible (first | exact At.here | apply At.there)))).drop (a := .blk (w.heap.size + 1) _) (by repeat (with_reducible (first | exact At.here | apply At.there)))).drop (a := .blk (w.heap.size + 1 + 1) _) (by repeat (with_reducible (first | exact At.here | apply At.there)))).find (a := .own dkR v _) (by repeat (with_reducible (first | exact At.here | apply At.there))), HR3.out⟩
  · (rw [if_pos (by rfl)]; go_simp; go_at_call 13; refine (dk_full f2 _).mono ?_; rintro e w' ⟨rfl, hb⟩; have Hy1 := Hy0.below hb; clear Hy0 hb)
    try go_simp
    (refine hK.out _ _ (Hy1.blk (by repeat (with_reducible (first | exact At.here | apply At.there)))) (fun hH2_ => ?_); clear hK K hH_; have hH_ := hH2_; clear hH2_; try simp only [List.getElem_toArray, List.getElem_cons_succ, List.getElem_cons_zero, Act.put, List.setIfInBounds_toArray, List.set_cons_zero, List.set_cons_succ])
    refine wpAnyH_ready (rs := [0]) (by kernel_rfl) (by simp) ?_
    refine AllReadyH.cons rfl (fun K hK => ?_) AllReadyH.nil
    refine step_load_mid rfl 50 (.tmp 4) rfl w.heap.size 0 rfl [.slice A1 n1 c1, .slice A2 n2 c2, .int .i64 x.steps, .int .i64 x.left, .bool x.armed, .bool x.gone] _ (rangeAt_blk ((Hy1).blk (b := w.heap.size) (o := .cells (rfC A1 n1 c1 A2 n2 c2 x.steps x.left x.armed x.gone) 50 (0, 0)) (by repeat (with_reducible (first | exact At.here | apply At.there))))) hu50 rfl rf_info ?_
    (refine hK.out _ _ (Hy1.blk (by repeat (with_reducible (first | exact At.here | apply At.there)))) (fun hH2_ => ?_); clear hK K hH_; have hH_ := hH2_; clear hH2_; try simp only [List.getElem_toArray, List.getElem_cons_succ, List.getElem_cons_zero, Act.put, List.setIfInBounds_toArray, List.set_cons_zero, List.set_cons_succ])
    (refine wpAnyH_ready (rs := [6]) (by kernel_rfl) (by simp) ?_; refine AllReadyH.cons rfl (fun K hK => ?_) AllReadyH.nil; go_simp; go_at_call 34; refine (rf_put (x := x) f1 (fullS f2) (fullS_len _) Hy1.tail.tail.tail.tail HR.out HG.out).mono ?_; rintro e w' ⟨A3, n3, c3, A4, n4, c4, ex, rfl, hj, hr3⟩; have Hy := (Hy1.join hj).front4 ex; have HR3 := Aside0.mk hr3; clear Hy1 hj hr3; (try go_simp); refine hK.out _ _ (Hy.blk (by repeat (with_reducible (first | exact At.here | apply At.there)))) (fun hH2_ => ?_); clear hK K hH_; have hH_ := hH2_; clear hH2_; try simp only [List.getElem_toArray, List.getElem_cons_succ, List.getElem_cons_zero, Act.put, List.setIfInBounds_toArray, List.set_cons_zero, List.set_cons_succ])
    (refine wpAnyH_take (i := 7) (v := ?_) rfl (by kernel_rfl) (by kernel_rfl) (by kernel_rfl) (fun _ _ _ h => h) (Or.inl ⟨by rfl, ?_⟩) hH_ ?_; rotate_left; (focus (intro w_ hSw_; go_simp; try (with_reducible rfl))); simp only [List.getElem_toArray, List.getElem_cons_succ, List.getElem_cons_zero, Act.put, List.setIfInBounds_toArray, List.set_cons_zero, List.set_cons_succ])
    (refine wpAnyH_take (i := 8) (v := ?_) rfl (by kernel_rfl) (by kernel_rfl) (by kernel_rfl) (fun _ _ _ h => h) (Or.inl ⟨by rfl, ?_⟩) hH_ ?_; rotate_left; (focus (intro w_ hSw_; go_simp; try (with_reducible rfl))); simp only [List.getElem_toArray, List.getElem_cons_succ, List.getElem_cons_zero, Act.put, List.setIfInBounds_toArray, List.set_cons_zero, List.set_cons_succ])
    (refine wpAnyH_take (i := 9) (v := ?_) rfl (by kernel_rfl) (by kernel_rfl) (by kernel_rfl) (fun _ _ _ h => h) (Or.inl ⟨by rfl, ?_⟩) hH_ ?_; rotate_left; (focus (intro w_ hSw_; go_simp; try (with_reducible rfl))); simp only [List.getElem_toArray, List.getElem_cons_succ, List.getElem_cons_zero, Act.put, List.setIfInBounds_toArray, List.set_cons_zero, List.set_cons_succ])
    (refine wpAnyH_ready (rs := [10]) (by kernel_rfl) (by simp) ?_; refine AllReadyH.cons rfl (fun K hK => ?_) AllReadyH.nil; have F := (Hy).facts; simp only [factsOf, Asr.facts, blkFacts, cellsAre, List.toList_toArray, forall_const, Nat.zero_add, Nat.reduceAdd, and_true, true_and] at F; go_simp; refine Cx.genP (C := K _) (by (repeat (with_reducible (first | exact (Hy).toS | exact At.here | apply At.there | apply CxS.drewN | apply CxS.drew | apply CxS.alloc | apply CxS.set | apply CxS.setRow)))) (fun Wn Hn => ?_); clear F Hy; have Hy := Hn; clear Hn; (try simp only [List.setIfInBounds_toArray, List.set_cons_zero, List.set_cons_succ] at Hy); refine hK.out _ _ (Hy.blk (by repeat (with_reducible (first | exact At.here | apply At.there)))) (fun hH2_ => ?_); clear hK K hH_; have hH_ := hH2_; clear hH2_; try simp only [List.getElem_toArray, List.getElem_cons_succ, List.getElem_cons_zero, Act.put, List.setIfInBounds_toArray, List.set_cons_zero, List.set_cons_succ])
    (refine wpAnyH_take (i := 11) (v := ?_) rfl (by kernel_rfl) (by kernel_rfl) (by kernel_rfl) (fun _ _ _ h => h) (Or.inl ⟨by rfl, ?_⟩) hH_ ?_; rotate_left; (focus (intro w_ hSw_; go_simp; try (with_reducible rfl))); simp only [List.getElem_toArray, List.getElem_cons_succ, List.getElem_cons_zero, Act.put, List.setIfInBounds_toArray, List.set_cons_zero, List.set_cons_succ])
    refine wpAnyH_done (by kernel_rfl) ?_ _
    clear hH_
    obtain ⟨y, hy⟩ : ∃ y, y = (x.put f1 (fullS f2)).1 := ⟨_, rfl⟩
    rw [← hy] at HR3 Hy ⊢
    have HY := Aside0.mk hy
    clear hy
    obtain ⟨bad, hbad⟩ : ∃ bad, bad = (x.put f1 (fullS f2)).2 := ⟨_, rfl⟩
    rw [← hbad]
    have HB := Aside0.mk hbad
    clear hbad
    (try (go_wp2_with fail))
    have Hz := (Hy.toS.drew).cx
    clear Hy
    refine wp_region_held_drew (S := fun W => W.heap[w.heap.size]? = some (.cells (rfC A3 n3 c3 A4 n4 c4 y.steps y.left y.armed y.gone) 50 (0, 0))) (by kernel_rfl) (Hz.blk (by repeat (with_reducible (first | exact At.here | apply At.there)))) (fun hH_ => ?_)
    generalize Wn.drew = Wz at *
    (refine wpAnyH_take (i := 0) rfl (by kernel_rfl) (by kernel_rfl) (by kernel_rfl) (fun _ _ _ h => h) (yieldsIf_load_mid (by rfl) 50 (.tmp 4) rfl (w.heap.size) (0) rfl ([.slice A3 n3 c3, .slice A4 n4 c4, .int .i64 y.steps, .int .i64 y.left, .bool y.armed, .bool y.gone]) _ (fun W h => rangeAt_blk h) Try.underlying50 rfl (rf_info)) hH_ ?_; simp only [List.getElem_toArray, List.getElem_cons_succ, List.getElem_cons_zero, Act.put, List.setIfInBounds_toArray, List.set_cons_zero, List.set_cons_succ])
    (refine wpAnyH_take (i := 1) (v := ?_) rfl (by kernel_rfl) (by kernel_rfl) (by kernel_rfl) (fun _ _ _ h => h) (Or.inl ⟨by rfl, ?_⟩) hH_ ?_; rotate_left; (focus (intro w_ hSw_; go_simp; try (with_reducible rfl))); simp only [List.getElem_toArray, List.getElem_cons_succ, List.getElem_cons_zero, Act.put, List.setIfInBounds_toArray, List.set_cons_zero, List.set_cons_succ])
    (refine wpAnyH_take (i := 3) (v := ?_) rfl (by kernel_rfl) (by kernel_rfl) (by kernel_rfl) (fun _ _ _ h => h) (Or.inl ⟨by rfl, ?_⟩) hH_ ?_; rotate_left; (focus (intro w_ hSw_; go_simp; try (with_reducible rfl))); simp only [List.getElem_toArray, List.getElem_cons_succ, List.getElem_cons_zero, Act.put, List.setIfInBounds_toArray, List.set_cons_zero, List.set_cons_succ])
    cases hq : (numI (d.writeE f1) == bad)
    · (refine wpAnyH_ready (rs := [2]) (by kernel_rfl) (by simp) ?_; refine AllReadyH.cons rfl (fun K hK => ?_) AllReadyH.nil; go_simp; go_at_call 38; refine (num_calls (d.writeE f1) _).mono ?_; rintro e w' ⟨rfl, ⟨nn_, rfl⟩⟩; have Hy := (Hz.toS.drewN nn_).cx; clear Hz; (try go_simp); refine hK.out _ _ (Hy.blk (by repeat (with_reducible (first | exact At.here | apply At.there)))) (fun hH2_ => ?_); clear hK K hH_; have hH_ := hH2_; clear hH2_; try simp only [List.getElem_toArray, List.getElem_cons_succ, List.getElem_cons_zero, Act.put, List.setIfInBounds_toArray, List.set_cons_zero, List.set_cons_succ])
      (refine wpAnyH_take (i := 4) (v := ?_) rfl (by kernel_rfl) (by kernel_rfl) (by kernel_rfl) (fun _ _ _ h => h) (Or.inl ⟨by rfl, ?_⟩) hH_ ?_; rotate_left; (focus (intro w_ hSw_; go_simp; try (with_reducible rfl))); simp only [List.getElem_toArray, List.getElem_cons_succ, List.getElem_cons_zero, Act.put, List.setIfInBounds_toArray, List.set_cons_zero, List.set_cons_succ])
      try rw [hq]
      (refine wpAnyH_take (i := 5) (v := ?_) rfl (by kernel_rfl) (by kernel_rfl) (by kernel_rfl) (fun _ _ _ h => h) (Or.inl ⟨by rfl, ?_⟩) hH_ ?_; rotate_left; (focus (intro w_ hSw_; go_simp; try (with_reducible rfl))); simp only [List.getElem_toArray, List.getElem_cons_succ, List.getElem_cons_zero, Act.put, List.setIfInBounds_toArray, List.set_cons_zero, List.set_cons_succ])
      (refine wpAnyH_take (i := 6) (v := undef) rfl (by kernel_rfl) (by kernel_rfl) (by kernel_rfl) (fun _ _ _ h => h) (Or.inr ⟨by rfl, rfl⟩) hH_ ?_; simp only [List.getElem_toArray, List.getElem_cons_succ, List.getElem_cons_zero, Act.put, List.setIfInBounds_toArray, List.set_cons_zero, List.set_cons_succ])
      (refine wpAnyH_take (i := 7) (v := ?_) rfl (by kernel_rfl) (by kernel_rfl) (by kernel_rfl) (fun _ _ _ h => h) (Or.inl ⟨by rfl, ?_⟩) hH_ ?_; rotate_left; (focus (intro w_ hSw_; go_simp; try (with_reducible rfl))); simp only [List.getElem_toArray, List.getElem_cons_succ, List.getElem_cons_zero, Act.put, List.setIfInBounds_toArray, List.set_cons_zero, List.set_cons_succ])
      (refine wpAnyH_ready (rs := [8]) (by kernel_rfl) (by simp) ?_; refine AllReadyH.cons rfl (fun K hK => ?_) AllReadyH.nil; have F := (Hy).facts; simp only [factsOf, Asr.facts, blkFacts, cellsAre, List.toList_toArray, forall_const, Nat.zero_add, Nat.reduceAdd, and_true, true_and] at F; go_simp; refine Cx.genP (C := K _) (by (repeat (with_reducible (first | exact (Hy).toS | exact At.here | apply At.there | apply CxS.drewN | apply CxS.drew | apply CxS.alloc | apply CxS.set | apply CxS.setRow)))) (fun Wn Hn => ?_); clear F Hy; have Hy := Hn; clear Hn; (try simp only [List.setIfInBounds_toArray, List.set_cons_zero, List.set_cons_succ] at Hy); refine hK.out _ _ (Hy.blk (by repeat (with_reducible (first | exact At.here | apply At.there)))) (fun hH2_ => ?_); clear hK K hH_; have hH_ := hH2_; clear hH2_; try simp only [List.getElem_toArray, List.getElem_cons_succ, List.getElem_cons_zero, Act.put, List.setIfInBounds_toArray, List.set_cons_zero, List.set_cons_succ])
      (refine wpAnyH_take (i := 9) (v := ?_) rfl (by kernel_rfl) (by kernel_rfl) (by kernel_rfl) (fun _ _ _ h => h) (Or.inl ⟨by rfl, ?_⟩) hH_ ?_; rotate_left; (focus (intro w_ hSw_; go_simp; try (with_reducible rfl))); simp only [List.getElem_toArray, List.getElem_cons_succ, List.getElem_cons_zero, Act.put, List.setIfInBounds_toArray, List.set_cons_zero, List.set_cons_succ])
      refine wpAnyH_done (by kernel_rfl) ?_ _
      clear hH_; have F := (Hy).facts; simp only [factsOf, Asr.facts, blkFacts, cellsAre, List.toList_toArray, forall_const, Nat.zero_add, Nat.reduceAdd, and_true, true_and] at F; go_wp2; ((try simp only [Exit.inBlock, Exit.then]); (apply Cx.atPost); (focus ((repeat (with_reducible (first | exact (Hy).toS | exact At.here | apply At.there | apply CxS.drewN | apply CxS.drew | apply CxS.alloc | apply CxS.set | apply CxS.setRow))))); intro HT); (try simp only [List.setIfInBounds_toArray, List.set_cons_zero, List.set_cons_succ] at HT); (try rw [← HY.out]); (try rw [← HB.out]); (try rw [← HSB.out]); rw [hq]; exact bodyPost_ret (results_ct rfl _ _ (w.heap.size + 1 + 1) _ (rfC A3 n3 c3 A4 n4 c4 y.steps y.left y.armed y.gone) (0, 0) _ rfl (HT.blk (b := w.heap.size + 1 + 1) (by repeat (with_reducible (first | exact At.here | apply At.there)))) Try.underlying50 rfl rf_info) rfl ⟨A3, n3, c3, A4, n4, c4, ex, by first | rfl | trivial, (((HT.drop (a := .blk w.heap.size _) (by repeat (with_reducible (first | exact At.here | apply At.there)))).drop (a := .blk (w.heap.size + 1) _) (by repeat (with_reducible (first | exact At.here | apply At.there)))).drop (a := .blk (w.heap.size + 1 + 1) _) (by repeat (with_reducible (first | exact At.here | apply At.there)))).find (a := .own dkR v _) (by repeat (with_reducible (first | exact At.here | apply At.there))), HR3.out⟩
    · (refine wpAnyH_ready (rs := [2]) (by kernel_rfl) (by simp) ?_; refine AllReadyH.cons rfl (fun K hK => ?_) AllReadyH.nil; go_simp; go_at_call 38; refine (num_calls (d.writeE f1) _).mono ?_; rintro e w' ⟨rfl, ⟨nn_, rfl⟩⟩; have Hy := (Hz.toS.drewN nn_).cx; clear Hz; (try go_simp); refine hK.out _ _ (Hy.blk (by repeat (with_reducible (first | exact At.here | apply At.there)))) (fun hH2_ => ?_); clear hK K hH_; have hH_ := hH2_; clear hH2_; try simp only [List.getElem_toArray, List.getElem_cons_succ, List.getElem_cons_zero, Act.put, List.setIfInBounds_toArray, List.set_cons_zero, List.set_cons_succ])
      (refine wpAnyH_take (i := 4) (v := ?_) rfl (by kernel_rfl) (by kernel_rfl) (by kernel_rfl) (fun _ _ _ h => h) (Or.inl ⟨by rfl, ?_⟩) hH_ ?_; rotate_left; (focus (intro w_ hSw_; go_simp; try (with_reducible rfl))); simp only [List.getElem_toArray, List.getElem_cons_succ, List.getElem_cons_zero, Act.put, List.setIfInBounds_toArray, List.set_cons_zero, List.set_cons_succ])
      try rw [hq]
      (refine wpAnyH_take (i := 5) (v := ?_) rfl (by kernel_rfl) (by kernel_rfl) (by kernel_rfl) (fun _ _ _ h => h) (Or.inl ⟨by rfl, ?_⟩) hH_ ?_; rotate_left; (focus (intro w_ hSw_; go_simp; try (with_reducible rfl))); simp only [List.getElem_toArray, List.getElem_cons_succ, List.getElem_cons_zero, Act.put, List.setIfInBounds_toArray, List.set_cons_zero, List.set_cons_succ])
      (refine wpAnyH_take (i := 6) (v := ?_) rfl (by kernel_rfl) (by kernel_rfl) (by kernel_rfl) (fun _ _ _ h => h) (Or.inl ⟨by rfl, ?_⟩) hH_ ?_; rotate_left; (focus (intro w_ hSw_; go_simp; try (with_reducible rfl))); simp only [List.getElem_toArray, List.getElem_cons_succ, List.getElem_cons_zero, Act.put, List.setIfInBounds_toArray, List.set_cons_zero, List.set_cons_succ])
      (refine wpAnyH_take (i := 7) (v := ?_) rfl (by kernel_rfl) (by kernel_rfl) (by kernel_rfl) (fun _ _ _ h => h) (Or.inl ⟨by rfl, ?_⟩) hH_ ?_; rotate_left; (focus (intro w_ hSw_; go_simp; try (with_reducible rfl))); simp only [List.getElem_toArray, List.getElem_cons_succ, List.getElem_cons_zero, Act.put, List.setIfInBounds_toArray, List.set_cons_zero, List.set_cons_succ])
      (refine wpAnyH_ready (rs := [8]) (by kernel_rfl) (by simp) ?_; refine AllReadyH.cons rfl (fun K hK => ?_) AllReadyH.nil; have F := (Hy).facts; simp only [factsOf, Asr.facts, blkFacts, cellsAre, List.toList_toArray, forall_const, Nat.zero_add, Nat.reduceAdd, and_true, true_and] at F; go_simp; refine Cx.genP (C := K _) (by (repeat (with_reducible (first | exact (Hy).toS | exact At.here | apply At.there | apply CxS.drewN | apply CxS.drew | apply CxS.alloc | apply CxS.set | apply CxS.setRow)))) (fun Wn Hn => ?_); clear F Hy; have Hy := Hn; clear Hn; (try simp only [List.setIfInBounds_toArray, List.set_cons_zero, List.set_cons_succ] at Hy); refine hK.out _ _ (Hy.blk (by repeat (with_reducible (first | exact At.here | apply At.there)))) (fun hH2_ => ?_); clear hK K hH_; have hH_ := hH2_; clear hH2_; try simp only [List.getElem_toArray, List.getElem_cons_succ, List.getElem_cons_zero, Act.put, List.setIfInBounds_toArray, List.set_cons_zero, List.set_cons_succ])
      (refine wpAnyH_take (i := 9) (v := ?_) rfl (by kernel_rfl) (by kernel_rfl) (by kernel_rfl) (fun _ _ _ h => h) (Or.inl ⟨by rfl, ?_⟩) hH_ ?_; rotate_left; (focus (intro w_ hSw_; go_simp; try (with_reducible rfl))); simp only [List.getElem_toArray, List.getElem_cons_succ, List.getElem_cons_zero, Act.put, List.setIfInBounds_toArray, List.set_cons_zero, List.set_cons_succ])
      refine wpAnyH_done (by kernel_rfl) ?_ _
      clear hH_; have F := (Hy).facts; simp only [factsOf, Asr.facts, blkFacts, cellsAre, List.toList_toArray, forall_const, Nat.zero_add, Nat.reduceAdd, and_true, true_and] at F; go_wp2; ((try simp only [Exit.inBlock, Exit.then]); (apply Cx.atPost); (focus ((repeat (with_reducible (first | exact (Hy).toS | exact At.here | apply At.there | apply CxS.drewN | apply CxS.drew | apply CxS.alloc | apply CxS.set | apply CxS.setRow))))); intro HT); (try simp only [List.setIfInBounds_toArray, List.set_cons_zero, List.set_cons_succ] at HT); (try rw [← HY.out]); (try rw [← HB.out]); (try rw [← HSB.out]); rw [hq]; exact bodyPost_ret (results_ct rfl _ _ (w.heap.size + 1 + 1) _ (rfC A3 n3 c3 A4 n4 c4 y.steps y.left y.armed y.gone) (0, 0) _ rfl (HT.blk (b := w.heap.size + 1 + 1) (by repeat (with_reducible (first | exact At.here | apply At.there)))) Try.underlying50 rfl rf_info) rfl ⟨A3, n3, c3, A4, n4, c4, ex, by first | rfl | trivial, (((HT.drop (a := .blk w.heap.size _) (by repeat (with_reducible (first | exact At.here | apply At.there)))).drop (a := .blk (w.heap.size + 1) _) (by repeat (with_reducible (first | exact At.here | apply At.there)))).drop (a := .blk (w.heap.size + 1 + 1) _) (by repeat (with_reducible (first | exact At.here | apply At.there)))).find (a := .own dkR v _) (by repeat (with_reducible (first | exact At.here | apply At.there))), HR3.out⟩
set_option maxRecDepth 100000 in
set_option maxHeartbeats 8000000 in
include hf1 H k h hg hl in
theorem laminalaw02_do.flush (hk : o.f0 = 2) : Calls Try.prog 22 #[v, .agg (rfC A1 n1 c1 A2 n2 c2 x.steps x.left x.armed x.gone), .agg #[.int .i64 o.f0, .int .i64 o.f1, .int .u8 o.f2, .slice A o.f3.length c]] w fun e w1 => ∃ (A1 : Option Addr) (n1 c1 : Nat) (A2 : Option Addr) (n2 c2 : Nat) (ex : List Asr), e = .returned (.tuple #[.agg (rfC A1 n1 c1 A2 n2 c2 (x.flush.1).steps (x.flush.1).left (x.flush.1).armed (x.flush.1).gone), .bool (numI d.offE == x.flush.2)]) ∧ Cx w0.heap.size w0 w1 (.own dkR v (d.flush) :: (ex ++ r)) ∧ RfAt (ex ++ r) (x.flush.1) A1 n1 c1 A2 n2 c2 := by
  have h26 := Try.underlying26
  have h28 := Try.underlying28
  have hu36 := Try.underlying36
  have hu50 := Try.underlying50
  have H0 := H.find k
  clear H k
  obtain ⟨f0, f1, f2, f3⟩ := o
  dsimp only at *
  subst hk
  have HF1 := Aside0.mk hf1
  have HL := Aside0.mk hl
  have HG := Aside0.mk hg
  have HR := Aside0.mk h
  clear hf1 hl hg h
  go_enter Try.func22, Try.ntmps22
  go_wp2_with fail
  ((first | apply Cx.genCall | apply Cx.genCode | apply Cx.genList); (focus ((repeat (with_reducible (first | exact (H0).toS | exact At.here | apply At.there | apply CxS.drewN | apply CxS.drew | apply CxS.alloc | apply CxS.set | apply CxS.setRow))))); clear H0; intro wa Ha)
  (try simp only [List.setIfInBounds_toArray, List.set_cons_zero, List.set_cons_succ] at Ha)
  refine (dk_flush (d := d) (by have := HL.out; omega) Ha (by repeat (with_reducible (first | exact At.here | apply At.there)))).mono ?_
  rintro e wb ⟨rfl, Hb⟩
  clear Ha
  have F := (Hb).facts; simp only [factsOf, Asr.facts, blkFacts, cellsAre, List.toList_toArray, forall_const, Nat.zero_add, Nat.reduceAdd, and_true, true_and] at F
  go_wp2_with fail
  clear F
  refine (rf_flush (x := x) Hb.tail.tail.tail.tail HR.out HG.out).mono ?_
  rintro e wc ⟨A3, n3, c3, A4, n4, c4, ex, rfl, hj, hr3⟩
  have Hy := (Hb.join hj).front4 ex
  have HR3 := Aside0.mk hr3
  clear Hb hj hr3
  have F := (Hy).facts; simp only [factsOf, Asr.facts, blkFacts, cellsAre, List.toList_toArray, forall_const, Nat.zero_add, Nat.reduceAdd, and_true, true_and] at F
  go_wp2_with fail
  clear F
  ((first | apply Cx.genCall | apply Cx.genCode | apply Cx.genList); (focus ((repeat (with_reducible (first | exact (Hy).toS | exact At.here | apply At.there | apply CxS.drewN | apply CxS.drew | apply CxS.alloc | apply CxS.set | apply CxS.setRow))))); clear Hy; intro Wn Hy)
  (try simp only [List.setIfInBounds_toArray, List.set_cons_zero, List.set_cons_succ] at Hy)
  · obtain ⟨y, hy⟩ : ∃ y, y = x.flush.1 := ⟨_, rfl⟩
    rw [← hy] at HR3 Hy ⊢
    have HY := Aside0.mk hy
    clear hy
    obtain ⟨bad, hbad⟩ : ∃ bad, bad = x.flush.2 := ⟨_, rfl⟩
    rw [← hbad]
    have HB := Aside0.mk hbad
    clear hbad
    (try (go_wp2_with fail))
    have Hz := (Hy.toS.drew).cx
    clear Hy
    refine wp_region_held_drew (S := fun W => W.heap[w.heap.size]? = some (.cells (rfC A3 n3 c3 A4 n4 c4 y.steps y.left y.armed y.gone) 50 (0, 0))) (by kernel_rfl) (Hz.blk (by repeat (with_reducible (first | exact At.here | apply At.there)))) (fun hH_ => ?_)
    generalize Wn.drew = Wz at *
    (refine wpAnyH_take (i := 0) rfl (by kernel_rfl) (by kernel_rfl) (by kernel_rfl) (fun _ _ _ h => h) (yieldsIf_load_mid (by rfl) 50 (.tmp 4) rfl (w.heap.size) (0) rfl ([.slice A3 n3 c3, .slice A4 n4 c4, .int .i64 y.steps, .int .i64 y.left, .bool y.armed, .bool y.gone]) _ (fun W h => rangeAt_blk h) Try.underlying50 rfl (rf_info)) hH_ ?_; simp only [List.getElem_toArray, List.getElem_cons_succ, List.getElem_cons_zero, Act.put, List.setIfInBounds_toArray, List.set_cons_zero, List.set_cons_succ])
    (refine wpAnyH_take (i := 1) (v := ?_) rfl (by kernel_rfl) (by kernel_rfl) (by kernel_rfl) (fun _ _ _ h => h) (Or.inl ⟨by rfl, ?_⟩) hH_ ?_; rotate_left; (focus (intro w_ hSw_; go_simp; try (with_reducible rfl))); simp only [List.getElem_toArray, List.getElem_cons_succ, List.getElem_cons_zero, Act.put, List.setIfInBounds_toArray, List.set_cons_zero, List.set_cons_succ])
    (refine wpAnyH_take (i := 3) (v := ?_) rfl (by kernel_rfl) (by kernel_rfl) (by kernel_rfl) (fun _ _ _ h => h) (Or.inl ⟨by rfl, ?_⟩) hH_ ?_; rotate_left; (focus (intro w_ hSw_; go_simp; try (with_reducible rfl))); simp only [List.getElem_toArray, List.getElem_cons_succ, List.getElem_cons_zero, Act.put, List.setIfInBounds_toArray, List.set_cons_zero, List.set_cons_succ])
    cases hq : (numI (d.offE) == bad)
    · (refine wpAnyH_ready (rs := [2]) (by kernel_rfl) (by simp) ?_; refine AllReadyH.cons rfl (fun K hK => ?_) AllReadyH.nil; go_simp; go_at_call 38; refine (num_calls (d.offE) _).mono ?_; rintro e w' ⟨rfl, ⟨nn_, rfl⟩⟩; have Hy := (Hz.toS.drewN nn_).cx; clear Hz; (try go_simp); refine hK.out _ _ (Hy.blk (by repeat (with_reducible (first | exact At.here | apply At.there)))) (fun hH2_ => ?_); clear hK K hH_; have hH_ := hH2_; clear hH2_; try simp only [List.getElem_toArray, List.getElem_cons_succ, List.getElem_cons_zero, Act.put, List.setIfInBounds_toArray, List.set_cons_zero, List.set_cons_succ])
      (refine wpAnyH_take (i := 4) (v := ?_) rfl (by kernel_rfl) (by kernel_rfl) (by kernel_rfl) (fun _ _ _ h => h) (Or.inl ⟨by rfl, ?_⟩) hH_ ?_; rotate_left; (focus (intro w_ hSw_; go_simp; try (with_reducible rfl))); simp only [List.getElem_toArray, List.getElem_cons_succ, List.getElem_cons_zero, Act.put, List.setIfInBounds_toArray, List.set_cons_zero, List.set_cons_succ])
      try rw [hq]
      (refine wpAnyH_take (i := 5) (v := ?_) rfl (by kernel_rfl) (by kernel_rfl) (by kernel_rfl) (fun _ _ _ h => h) (Or.inl ⟨by rfl, ?_⟩) hH_ ?_; rotate_left; (focus (intro w_ hSw_; go_simp; try (with_reducible rfl))); simp only [List.getElem_toArray, List.getElem_cons_succ, List.getElem_cons_zero, Act.put, List.setIfInBounds_toArray, List.set_cons_zero, List.set_cons_succ])
      (refine wpAnyH_take (i := 6) (v := undef) rfl (by kernel_rfl) (by kernel_rfl) (by kernel_rfl) (fun _ _ _ h => h) (Or.inr ⟨by rfl, rfl⟩) hH_ ?_; simp only [List.getElem_toArray, List.getElem_cons_succ, List.getElem_cons_zero, Act.put, List.setIfInBounds_toArray, List.set_cons_zero, List.set_cons_succ])
      (refine wpAnyH_take (i := 7) (v := ?_) rfl (by kernel_rfl) (by kernel_rfl) (by kernel_rfl) (fun _ _ _ h => h) (Or.inl ⟨by rfl, ?_⟩) hH_ ?_; rotate_left; (focus (intro w_ hSw_; go_simp; try (with_reducible rfl))); simp only [List.getElem_toArray, List.getElem_cons_succ, List.getElem_cons_zero, Act.put, List.setIfInBounds_toArray, List.set_cons_zero, List.set_cons_succ])
      (refine wpAnyH_ready (rs := [8]) (by kernel_rfl) (by simp) ?_; refine AllReadyH.cons rfl (fun K hK => ?_) AllReadyH.nil; have F := (Hy).facts; simp only [factsOf, Asr.facts, blkFacts, cellsAre, List.toList_toArray, forall_const, Nat.zero_add, Nat.reduceAdd, and_true, true_and] at F; go_simp; refine Cx.genP (C := K _) (by (repeat (with_reducible (first | exact (Hy).toS | exact At.here | apply At.there | apply CxS.drewN | apply CxS.drew | apply CxS.alloc | apply CxS.set | apply CxS.setRow)))) (fun Wn Hn => ?_); clear F Hy; have Hy := Hn; clear Hn; (try simp only [List.setIfInBounds_toArray, List.set_cons_zero, List.set_cons_succ] at Hy); refine hK.out _ _ (Hy.blk (by repeat (with_reducible (first | exact At.here | apply At.there)))) (fun hH2_ => ?_); clear hK K hH_; have hH_ := hH2_; clear hH2_; try simp only [List.getElem_toArray, List.getElem_cons_succ, List.getElem_cons_zero, Act.put, List.setIfInBounds_toArray, List.set_cons_zero, List.set_cons_succ])
      (refine wpAnyH_take (i := 9) (v := ?_) rfl (by kernel_rfl) (by kernel_rfl) (by kernel_rfl) (fun _ _ _ h => h) (Or.inl ⟨by rfl, ?_⟩) hH_ ?_; rotate_left; (focus (intro w_ hSw_; go_simp; try (with_reducible rfl))); simp only [List.getElem_toArray, List.getElem_cons_succ, List.getElem_cons_zero, Act.put, List.setIfInBounds_toArray, List.set_cons_zero, List.set_cons_succ])
      refine wpAnyH_done (by kernel_rfl) ?_ _
      clear hH_; have F := (Hy).facts; simp only [factsOf, Asr.facts, blkFacts, cellsAre, List.toList_toArray, forall_const, Nat.zero_add, Nat.reduceAdd, and_true, true_and] at F; go_wp2; ((try simp only [Exit.inBlock, Exit.then]); (apply Cx.atPost); (focus ((repeat (with_reducible (first | exact (Hy).toS | exact At.here | apply At.there | apply CxS.drewN | apply CxS.drew | apply CxS.alloc | apply CxS.set | apply CxS.setRow))))); intro HT); (try simp only [List.setIfInBounds_toArray, List.set_cons_zero, List.set_cons_succ] at HT); (try rw [← HY.out]); (try rw [← HB.out]); (try rw [← HSB.out]); rw [hq]; exact bodyPost_ret (results_ct rfl _ _ (w.heap.size + 1 + 1) _ (rfC A3 n3 c3 A4 n4 c4 y.steps y.left y.armed y.gone) (0, 0) _ rfl (HT.blk (b := w.heap.size + 1 + 1) (by repeat (with_reducible (first | exact At.here | apply At.there)))) Try.underlying50 rfl rf_info) rfl ⟨A3, n3, c3, A4, n4, c4, ex, by first | rfl | trivial, (((HT.drop (a := .blk w.heap.size _) (by repeat (with_reducible (first | exact At.here | apply At.there)))).drop (a := .blk (w.heap.size + 1) _) (by repeat (with_reducible (first | exact At.here | apply At.there)))).drop (a := .blk (w.heap.size + 1 + 1) _) (by repeat (with_reducible (first | exact At.here | apply At.there)))).find (a := .own dkR v _) (by repeat (with_reducible (first | exact At.here | apply At.there))), HR3.out⟩
    · (refine wpAnyH_ready (rs := [2]) (by kernel_rfl) (by simp) ?_; refine AllReadyH.cons rfl (fun K hK => ?_) AllReadyH.nil; go_simp; go_at_call 38; refine (num_calls (d.offE) _).mono ?_; rintro e w' ⟨rfl, ⟨nn_, rfl⟩⟩; have Hy := (Hz.toS.drewN nn_).cx; clear Hz; (try go_simp); refine hK.out _ _ (Hy.blk (by repeat (with_reducible (first | exact At.here | apply At.there)))) (fun hH2_ => ?_); clear hK K hH_; have hH_ := hH2_; clear hH2_; try simp only [List.getElem_toArray, List.getElem_cons_succ, List.getElem_cons_zero, Act.put, List.setIfInBounds_toArray, List.set_cons_zero, List.set_cons_succ])
      (refine wpAnyH_take (i := 4) (v := ?_) rfl (by kernel_rfl) (by kernel_rfl) (by kernel_rfl) (fun _ _ _ h => h) (Or.inl ⟨by rfl, ?_⟩) hH_ ?_; rotate_left; (focus (intro w_ hSw_; go_simp; try (with_reducible rfl))); simp only [List.getElem_toArray, List.getElem_cons_succ, List.getElem_cons_zero, Act.put, List.setIfInBounds_toArray, List.set_cons_zero, List.set_cons_succ])
      try rw [hq]
      (refine wpAnyH_take (i := 5) (v := ?_) rfl (by kernel_rfl) (by kernel_rfl) (by kernel_rfl) (fun _ _ _ h => h) (Or.inl ⟨by rfl, ?_⟩) hH_ ?_; rotate_left; (focus (intro w_ hSw_; go_simp; try (with_reducible rfl))); simp only [List.getElem_toArray, List.getElem_cons_succ, List.getElem_cons_zero, Act.put, List.setIfInBounds_toArray, List.set_cons_zero, List.set_cons_succ])
      (refine wpAnyH_take (i := 6) (v := ?_) rfl (by kernel_rfl) (by kernel_rfl) (by kernel_rfl) (fun _ _ _ h => h) (Or.inl ⟨by rfl, ?_⟩) hH_ ?_; rotate_left; (focus (intro w_ hSw_; go_simp; try (with_reducible rfl))); simp only [List.getElem_toArray, List.getElem_cons_succ, List.getElem_cons_zero, Act.put, List.setIfInBounds_toArray, List.set_cons_zero, List.set_cons_succ])
      (refine wpAnyH_take (i := 7) (v := ?_) rfl (by kernel_rfl) (by kernel_rfl) (by kernel_rfl) (fun _ _ _ h => h) (Or.inl ⟨by rfl, ?_⟩) hH_ ?_; rotate_left; (focus (intro w_ hSw_; go_simp; try (with_reducible rfl))); simp only [List.getElem_toArray, List.getElem_cons_succ, List.getElem_cons_zero, Act.put, List.setIfInBounds_toArray, List.set_cons_zero, List.set_cons_succ])
      (refine wpAnyH_ready (rs := [8]) (by kernel_rfl) (by simp) ?_; refine AllReadyH.cons rfl (fun K hK => ?_) AllReadyH.nil; have F := (Hy).facts; simp only [factsOf, Asr.facts, blkFacts, cellsAre, List.toList_toArray, forall_const, Nat.zero_add, Nat.reduceAdd, and_true, true_and] at F; go_simp; refine Cx.genP (C := K _) (by (repeat (with_reducible (first | exact (Hy).toS | exact At.here | apply At.there | apply CxS.drewN | apply CxS.drew | apply CxS.alloc | apply CxS.set | apply CxS.setRow)))) (fun Wn Hn => ?_); clear F Hy; have Hy := Hn; clear Hn; (try simp only [List.setIfInBounds_toArray, List.set_cons_zero, List.set_cons_succ] at Hy); refine hK.out _ _ (Hy.blk (by repeat (with_reducible (first | exact At.here | apply At.there)))) (fun hH2_ => ?_); clear hK K hH_; have hH_ := hH2_; clear hH2_; try simp only [List.getElem_toArray, List.getElem_cons_succ, List.getElem_cons_zero, Act.put, List.setIfInBounds_toArray, List.set_cons_zero, List.set_cons_succ])
      (refine wpAnyH_take (i := 9) (v := ?_) rfl (by kernel_rfl) (by kernel_rfl) (by kernel_rfl) (fun _ _ _ h => h) (Or.inl ⟨by rfl, ?_⟩) hH_ ?_; rotate_left; (focus (intro w_ hSw_; go_simp; try (with_reducible rfl))); simp only [List.getElem_toArray, List.getElem_cons_succ, List.getElem_cons_zero, Act.put, List.setIfInBounds_toArray, List.set_cons_zero, List.set_cons_succ])
      refine wpAnyH_done (by kernel_rfl) ?_ _
      clear hH_; have F := (Hy).facts; simp only [factsOf, Asr.facts, blkFacts, cellsAre, List.toList_toArray, forall_const, Nat.zero_add, Nat.reduceAdd, and_true, true_and] at F; go_wp2; ((try simp only [Exit.inBlock, Exit.then]); (apply Cx.atPost); (focus ((repeat (with_reducible (first | exact (Hy).toS | exact At.here | apply At.there | apply CxS.drewN | apply CxS.drew | apply CxS.alloc | apply CxS.set | apply CxS.setRow))))); intro HT); (try simp only [List.setIfInBounds_toArray, List.set_cons_zero, List.set_cons_succ] at HT); (try rw [← HY.out]); (try rw [← HB.out]); (try rw [← HSB.out]); rw [hq]; exact bodyPost_ret (results_ct rfl _ _ (w.heap.size + 1 + 1) _ (rfC A3 n3 c3 A4 n4 c4 y.steps y.left y.armed y.gone) (0, 0) _ rfl (HT.blk (b := w.heap.size + 1 + 1) (by repeat (with_reducible (first | exact At.here | apply At.there)))) Try.underlying50 rfl rf_info) rfl ⟨A3, n3, c3, A4, n4, c4, ex, by first | rfl | trivial, (((HT.drop (a := .blk w.heap.size _) (by repeat (with_reducible (first | exact At.here | apply At.there)))).drop (a := .blk (w.heap.size + 1) _) (by repeat (with_reducible (first | exact At.here | apply At.there)))).drop (a := .blk (w.heap.size + 1 + 1) _) (by repeat (with_reducible (first | exact At.here | apply At.there)))).find (a := .own dkR v _) (by repeat (with_reducible (first | exact At.here | apply At.there))), HR3.out⟩
set_option maxRecDepth 100000 in
set_option maxHeartbeats 8000000 in
include hf1 hkeep H k h hg hl in
theorem laminalaw02_do.crash (hk : o.f0 = 5) : Calls Try.prog 22 #[v, .agg (rfC A1 n1 c1 A2 n2 c2 x.steps x.left x.armed x.gone), .agg #[.int .i64 o.f0, .int .i64 o.f1, .int .u8 o.f2, .slice A o.f3.length c]] w fun e w1 => ∃ (A1 : Option Addr) (n1 c1 : Nat) (A2 : Option Addr) (n2 c2 : Nat) (ex : List Asr), e = .returned (.tuple #[.agg (rfC A1 n1 c1 A2 n2 c2 (x.crash o.f3).steps (x.crash o.f3).left (x.crash o.f3).armed (x.crash o.f3).gone), .bool (numI none == 0)]) ∧ Cx w0.heap.size w0 w1 (.own dkR v (d.crash o.f3) :: (ex ++ r)) ∧ RfAt (ex ++ r) (x.crash o.f3) A1 n1 c1 A2 n2 c2 := by
  have h26 := Try.underlying26
  have h28 := Try.underlying28
  have hu36 := Try.underlying36
  have hu50 := Try.underlying50
  have H0 := H.find k
  clear H k
  obtain ⟨f0, f1, f2, f3⟩ := o
  dsimp only at *
  subst hk
  have HF1 := Aside0.mk hf1
  have HL := Aside0.mk hl
  have HG := Aside0.mk hg
  have HR := Aside0.mk h
  clear hf1 hl hg h
  go_enter Try.func22, Try.ntmps22
  go_wp2_with fail
  have HK := Aside0.mk hkeep
  clear hkeep
  ((first | apply Cx.genCall | apply Cx.genCode | apply Cx.genList); (focus ((repeat (with_reducible (first | exact (H0).toS | exact At.here | apply At.there | apply CxS.drewN | apply CxS.drew | apply CxS.alloc | apply CxS.set | apply CxS.setRow))))); clear H0; intro wa Ha)
  (try simp only [List.setIfInBounds_toArray, List.set_cons_zero, List.set_cons_succ] at Ha)
  refine (dk_crash (d := d) A f3.length c f3 (by have := HL.out; omega) Ha (by repeat (with_reducible (first | exact At.here | apply At.there))) (fun W hW => Kd.C_below HK.out hW.bel)).mono ?_
  rintro e wb ⟨rfl, Hb⟩
  clear Ha
  have F := (Hb).facts; simp only [factsOf, Asr.facts, blkFacts, cellsAre, List.toList_toArray, forall_const, Nat.zero_add, Nat.reduceAdd, and_true, true_and] at F
  go_wp2_with fail
  clear F
  refine (rf_crashW (x := x) A f3.length c f3 Hb.tail.tail.tail.tail (Kd.C_below HK.out Hb.bel) HR.out HG.out).mono ?_
  rintro e wc ⟨A3, n3, c3, A4, n4, c4, ex, rfl, hj, hr3⟩
  have Hy := (Hb.join hj).front4 ex
  have HR3 := Aside0.mk hr3
  clear Hb hj hr3
  have F := (Hy).facts; simp only [factsOf, Asr.facts, blkFacts, cellsAre, List.toList_toArray, forall_const, Nat.zero_add, Nat.reduceAdd, and_true, true_and] at F
  go_wp2_with fail
  clear F
  ((first | apply Cx.genCall | apply Cx.genCode | apply Cx.genList); (focus ((repeat (with_reducible (first | exact (Hy).toS | exact At.here | apply At.there | apply CxS.drewN | apply CxS.drew | apply CxS.alloc | apply CxS.set | apply CxS.setRow))))); clear Hy; intro Wn Hy)
  (try simp only [List.setIfInBounds_toArray, List.set_cons_zero, List.set_cons_succ] at Hy)
  · obtain ⟨y, hy⟩ : ∃ y, y = x.crash f3 := ⟨_, rfl⟩
    rw [← hy] at HR3 Hy ⊢
    have HY := Aside0.mk hy
    clear hy
    (try (go_wp2_with fail))
    have Hz := (Hy.toS.drew).cx
    clear Hy
    refine wp_region_held_drew (S := fun W => W.heap[w.heap.size]? = some (.cells (rfC A3 n3 c3 A4 n4 c4 y.steps y.left y.armed y.gone) 50 (0, 0))) (by kernel_rfl) (Hz.blk (by repeat (with_reducible (first | exact At.here | apply At.there)))) (fun hH_ => ?_)
    generalize Wn.drew = Wz at *
    (refine wpAnyH_take (i := 0) rfl (by kernel_rfl) (by kernel_rfl) (by kernel_rfl) (fun _ _ _ h => h) (yieldsIf_load_mid (by rfl) 50 (.tmp 4) rfl (w.heap.size) (0) rfl ([.slice A3 n3 c3, .slice A4 n4 c4, .int .i64 y.steps, .int .i64 y.left, .bool y.armed, .bool y.gone]) _ (fun W h => rangeAt_blk h) Try.underlying50 rfl (rf_info)) hH_ ?_; simp only [List.getElem_toArray, List.getElem_cons_succ, List.getElem_cons_zero, Act.put, List.setIfInBounds_toArray, List.set_cons_zero, List.set_cons_succ])
    (refine wpAnyH_take (i := 1) (v := ?_) rfl (by kernel_rfl) (by kernel_rfl) (by kernel_rfl) (fun _ _ _ h => h) (Or.inl ⟨by rfl, ?_⟩) hH_ ?_; rotate_left; (focus (intro w_ hSw_; go_simp; try (with_reducible rfl))); simp only [List.getElem_toArray, List.getElem_cons_succ, List.getElem_cons_zero, Act.put, List.setIfInBounds_toArray, List.set_cons_zero, List.set_cons_succ])
    (refine wpAnyH_take (i := 3) (v := ?_) rfl (by kernel_rfl) (by kernel_rfl) (by kernel_rfl) (fun _ _ _ h => h) (Or.inl ⟨by rfl, ?_⟩) hH_ ?_; rotate_left; (focus (intro w_ hSw_; go_simp; try (with_reducible rfl))); simp only [List.getElem_toArray, List.getElem_cons_succ, List.getElem_cons_zero, Act.put, List.setIfInBounds_toArray, List.set_cons_zero, List.set_cons_succ])
    cases hq : (numI (none) == 0)
    · (refine wpAnyH_ready (rs := [2]) (by kernel_rfl) (by simp) ?_; refine AllReadyH.cons rfl (fun K hK => ?_) AllReadyH.nil; go_simp; go_at_call 38; refine (num_calls (none) _).mono ?_; rintro e w' ⟨rfl, ⟨nn_, rfl⟩⟩; have Hy := (Hz.toS.drewN nn_).cx; clear Hz; (try go_simp); refine hK.out _ _ (Hy.blk (by repeat (with_reducible (first | exact At.here | apply At.there)))) (fun hH2_ => ?_); clear hK K hH_; have hH_ := hH2_; clear hH2_; try simp only [List.getElem_toArray, List.getElem_cons_succ, List.getElem_cons_zero, Act.put, List.setIfInBounds_toArray, List.set_cons_zero, List.set_cons_succ])
      (refine wpAnyH_take (i := 4) (v := ?_) rfl (by kernel_rfl) (by kernel_rfl) (by kernel_rfl) (fun _ _ _ h => h) (Or.inl ⟨by rfl, ?_⟩) hH_ ?_; rotate_left; (focus (intro w_ hSw_; go_simp; try (with_reducible rfl))); simp only [List.getElem_toArray, List.getElem_cons_succ, List.getElem_cons_zero, Act.put, List.setIfInBounds_toArray, List.set_cons_zero, List.set_cons_succ])
      try rw [hq]
      (refine wpAnyH_take (i := 5) (v := ?_) rfl (by kernel_rfl) (by kernel_rfl) (by kernel_rfl) (fun _ _ _ h => h) (Or.inl ⟨by rfl, ?_⟩) hH_ ?_; rotate_left; (focus (intro w_ hSw_; go_simp; try (with_reducible rfl))); simp only [List.getElem_toArray, List.getElem_cons_succ, List.getElem_cons_zero, Act.put, List.setIfInBounds_toArray, List.set_cons_zero, List.set_cons_succ])
      (refine wpAnyH_take (i := 6) (v := undef) rfl (by kernel_rfl) (by kernel_rfl) (by kernel_rfl) (fun _ _ _ h => h) (Or.inr ⟨by rfl, rfl⟩) hH_ ?_; simp only [List.getElem_toArray, List.getElem_cons_succ, List.getElem_cons_zero, Act.put, List.setIfInBounds_toArray, List.set_cons_zero, List.set_cons_succ])
      (refine wpAnyH_take (i := 7) (v := ?_) rfl (by kernel_rfl) (by kernel_rfl) (by kernel_rfl) (fun _ _ _ h => h) (Or.inl ⟨by rfl, ?_⟩) hH_ ?_; rotate_left; (focus (intro w_ hSw_; go_simp; try (with_reducible rfl))); simp only [List.getElem_toArray, List.getElem_cons_succ, List.getElem_cons_zero, Act.put, List.setIfInBounds_toArray, List.set_cons_zero, List.set_cons_succ])
      (refine wpAnyH_ready (rs := [8]) (by kernel_rfl) (by simp) ?_; refine AllReadyH.cons rfl (fun K hK => ?_) AllReadyH.nil; have F := (Hy).facts; simp only [factsOf, Asr.facts, blkFacts, cellsAre, List.toList_toArray, forall_const, Nat.zero_add, Nat.reduceAdd, and_true, true_and] at F; go_simp; refine Cx.genP (C := K _) (by (repeat (with_reducible (first | exact (Hy).toS | exact At.here | apply At.there | apply CxS.drewN | apply CxS.drew | apply CxS.alloc | apply CxS.set | apply CxS.setRow)))) (fun Wn Hn => ?_); clear F Hy; have Hy := Hn; clear Hn; (try simp only [List.setIfInBounds_toArray, List.set_cons_zero, List.set_cons_succ] at Hy); refine hK.out _ _ (Hy.blk (by repeat (with_reducible (first | exact At.here | apply At.there)))) (fun hH2_ => ?_); clear hK K hH_; have hH_ := hH2_; clear hH2_; try simp only [List.getElem_toArray, List.getElem_cons_succ, List.getElem_cons_zero, Act.put, List.setIfInBounds_toArray, List.set_cons_zero, List.set_cons_succ])
      (refine wpAnyH_take (i := 9) (v := ?_) rfl (by kernel_rfl) (by kernel_rfl) (by kernel_rfl) (fun _ _ _ h => h) (Or.inl ⟨by rfl, ?_⟩) hH_ ?_; rotate_left; (focus (intro w_ hSw_; go_simp; try (with_reducible rfl))); simp only [List.getElem_toArray, List.getElem_cons_succ, List.getElem_cons_zero, Act.put, List.setIfInBounds_toArray, List.set_cons_zero, List.set_cons_succ])
      refine wpAnyH_done (by kernel_rfl) ?_ _
      clear hH_; have F := (Hy).facts; simp only [factsOf, Asr.facts, blkFacts, cellsAre, List.toList_toArray, forall_const, Nat.zero_add, Nat.reduceAdd, and_true, true_and] at F; go_wp2; ((try simp only [Exit.inBlock, Exit.then]); (apply Cx.atPost); (focus ((repeat (with_reducible (first | exact (Hy).toS | exact At.here | apply At.there | apply CxS.drewN | apply CxS.drew | apply CxS.alloc | apply CxS.set | apply CxS.setRow))))); intro HT); (try simp only [List.setIfInBounds_toArray, List.set_cons_zero, List.set_cons_succ] at HT); (try rw [← HY.out]); (try rw [← HB.out]); (try rw [← HSB.out]); rw [hq]; exact bodyPost_ret (results_ct rfl _ _ (w.heap.size + 1 + 1) _ (rfC A3 n3 c3 A4 n4 c4 y.steps y.left y.armed y.gone) (0, 0) _ rfl (HT.blk (b := w.heap.size + 1 + 1) (by repeat (with_reducible (first | exact At.here | apply At.there)))) Try.underlying50 rfl rf_info) rfl ⟨A3, n3, c3, A4, n4, c4, ex, by first | rfl | trivial, (((HT.drop (a := .blk w.heap.size _) (by repeat (with_reducible (first | exact At.here | apply At.there)))).drop (a := .blk (w.heap.size + 1) _) (by repeat (with_reducible (first | exact At.here | apply At.there)))).drop (a := .blk (w.heap.size + 1 + 1) _) (by repeat (with_reducible (first | exact At.here | apply At.there)))).find (a := .own dkR v _) (by repeat (with_reducible (first | exact At.here | apply At.there))), HR3.out⟩
    · (refine wpAnyH_ready (rs := [2]) (by kernel_rfl) (by simp) ?_; refine AllReadyH.cons rfl (fun K hK => ?_) AllReadyH.nil; go_simp; go_at_call 38; refine (num_calls (none) _).mono ?_; rintro e w' ⟨rfl, ⟨nn_, rfl⟩⟩; have Hy := (Hz.toS.drewN nn_).cx; clear Hz; (try go_simp); refine hK.out _ _ (Hy.blk (by repeat (with_reducible (first | exact At.here | apply At.there)))) (fun hH2_ => ?_); clear hK K hH_; have hH_ := hH2_; clear hH2_; try simp only [List.getElem_toArray, List.getElem_cons_succ, List.getElem_cons_zero, Act.put, List.setIfInBounds_toArray, List.set_cons_zero, List.set_cons_succ])
      (refine wpAnyH_take (i := 4) (v := ?_) rfl (by kernel_rfl) (by kernel_rfl) (by kernel_rfl) (fun _ _ _ h => h) (Or.inl ⟨by rfl, ?_⟩) hH_ ?_; rotate_left; (focus (intro w_ hSw_; go_simp; try (with_reducible rfl))); simp only [List.getElem_toArray, List.getElem_cons_succ, List.getElem_cons_zero, Act.put, List.setIfInBounds_toArray, List.set_cons_zero, List.set_cons_succ])
      try rw [hq]
      (refine wpAnyH_take (i := 5) (v := ?_) rfl (by kernel_rfl) (by kernel_rfl) (by kernel_rfl) (fun _ _ _ h => h) (Or.inl ⟨by rfl, ?_⟩) hH_ ?_; rotate_left; (focus (intro w_ hSw_; go_simp; try (with_reducible rfl))); simp only [List.getElem_toArray, List.getElem_cons_succ, List.getElem_cons_zero, Act.put, List.setIfInBounds_toArray, List.set_cons_zero, List.set_cons_succ])
      (refine wpAnyH_take (i := 6) (v := ?_) rfl (by kernel_rfl) (by kernel_rfl) (by kernel_rfl) (fun _ _ _ h => h) (Or.inl ⟨by rfl, ?_⟩) hH_ ?_; rotate_left; (focus (intro w_ hSw_; go_simp; try (with_reducible rfl))); simp only [List.getElem_toArray, List.getElem_cons_succ, List.getElem_cons_zero, Act.put, List.setIfInBounds_toArray, List.set_cons_zero, List.set_cons_succ])
      (refine wpAnyH_take (i := 7) (v := ?_) rfl (by kernel_rfl) (by kernel_rfl) (by kernel_rfl) (fun _ _ _ h => h) (Or.inl ⟨by rfl, ?_⟩) hH_ ?_; rotate_left; (focus (intro w_ hSw_; go_simp; try (with_reducible rfl))); simp only [List.getElem_toArray, List.getElem_cons_succ, List.getElem_cons_zero, Act.put, List.setIfInBounds_toArray, List.set_cons_zero, List.set_cons_succ])
      (refine wpAnyH_ready (rs := [8]) (by kernel_rfl) (by simp) ?_; refine AllReadyH.cons rfl (fun K hK => ?_) AllReadyH.nil; have F := (Hy).facts; simp only [factsOf, Asr.facts, blkFacts, cellsAre, List.toList_toArray, forall_const, Nat.zero_add, Nat.reduceAdd, and_true, true_and] at F; go_simp; refine Cx.genP (C := K _) (by (repeat (with_reducible (first | exact (Hy).toS | exact At.here | apply At.there | apply CxS.drewN | apply CxS.drew | apply CxS.alloc | apply CxS.set | apply CxS.setRow)))) (fun Wn Hn => ?_); clear F Hy; have Hy := Hn; clear Hn; (try simp only [List.setIfInBounds_toArray, List.set_cons_zero, List.set_cons_succ] at Hy); refine hK.out _ _ (Hy.blk (by repeat (with_reducible (first | exact At.here | apply At.there)))) (fun hH2_ => ?_); clear hK K hH_; have hH_ := hH2_; clear hH2_; try simp only [List.getElem_toArray, List.getElem_cons_succ, List.getElem_cons_zero, Act.put, List.setIfInBounds_toArray, List.set_cons_zero, List.set_cons_succ])
      (refine wpAnyH_take (i := 9) (v := ?_) rfl (by kernel_rfl) (by kernel_rfl) (by kernel_rfl) (fun _ _ _ h => h) (Or.inl ⟨by rfl, ?_⟩) hH_ ?_; rotate_left; (focus (intro w_ hSw_; go_simp; try (with_reducible rfl))); simp only [List.getElem_toArray, List.getElem_cons_succ, List.getElem_cons_zero, Act.put, List.setIfInBounds_toArray, List.set_cons_zero, List.set_cons_succ])
      refine wpAnyH_done (by kernel_rfl) ?_ _
      clear hH_; have F := (Hy).facts; simp only [factsOf, Asr.facts, blkFacts, cellsAre, List.toList_toArray, forall_const, Nat.zero_add, Nat.reduceAdd, and_true, true_and] at F; go_wp2; ((try simp only [Exit.inBlock, Exit.then]); (apply Cx.atPost); (focus ((repeat (with_reducible (first | exact (Hy).toS | exact At.here | apply At.there | apply CxS.drewN | apply CxS.drew | apply CxS.alloc | apply CxS.set | apply CxS.setRow))))); intro HT); (try simp only [List.setIfInBounds_toArray, List.set_cons_zero, List.set_cons_succ] at HT); (try rw [← HY.out]); (try rw [← HB.out]); (try rw [← HSB.out]); rw [hq]; exact bodyPost_ret (results_ct rfl _ _ (w.heap.size + 1 + 1) _ (rfC A3 n3 c3 A4 n4 c4 y.steps y.left y.armed y.gone) (0, 0) _ rfl (HT.blk (b := w.heap.size + 1 + 1) (by repeat (with_reducible (first | exact At.here | apply At.there)))) Try.underlying50 rfl rf_info) rfl ⟨A3, n3, c3, A4, n4, c4, ex, by first | rfl | trivial, (((HT.drop (a := .blk w.heap.size _) (by repeat (with_reducible (first | exact At.here | apply At.there)))).drop (a := .blk (w.heap.size + 1) _) (by repeat (with_reducible (first | exact At.here | apply At.there)))).drop (a := .blk (w.heap.size + 1 + 1) _) (by repeat (with_reducible (first | exact At.here | apply At.there)))).find (a := .own dkR v _) (by repeat (with_reducible (first | exact At.here | apply At.there))), HR3.out⟩
end

/-! ### laminalaw02_stands: function 26 -/
-- needs: rf_put rf_flush rf_crashW rf_read RfAt dk_write dk_flush dk_crash dk_arm dk_read dk_full DOOUT num_calls
section
variable {w0 w : World} {m r : List Asr} {v : Value} {d : Dk} {x : Rf} {A1 : Option Addr} {n1 c1 : Nat} {A2 : Option Addr} {n2 c2 : Nat} (o : S36) (A : Option Addr) (c : Nat) (hf1 : (Lit.int .i64 o.f1).wf = true) (hkeep : Kd.C Kd.bool w0 A o.f3.length o.f3)
  (H : Cx w0.heap.size w0 w m) (k : At m (.own dkR v d) r) (h : RfAt r x A1 n1 c1 A2 n2 c2) (hg : x.Good) (hl : d.cnt + d.waiting.length < 100000)
set_option maxRecDepth 100000 in
set_option maxHeartbeats 8000000 in
include hf1 H k h hg hl in
theorem do_arm (hk : o.f0 = 4) : Calls Try.prog 22 #[v, .agg (rfC A1 n1 c1 A2 n2 c2 x.steps x.left x.armed x.gone), .agg #[.int .i64 o.f0, .int .i64 o.f1, .int .u8 o.f2, .slice A o.f3.length c]] w fun e w1 => ∃ (A1 : Option Addr) (n1 c1 : Nat) (A2 : Option Addr) (n2 c2 : Nat) (ex : List Asr), e = .returned (.tuple #[.agg (rfC A1 n1 c1 A2 n2 c2 ((x.arm o.f1).1).steps ((x.arm o.f1).1).left ((x.arm o.f1).1).armed ((x.arm o.f1).1).gone), .bool (numI (if o.f1 < 0 then some 1 else none) == (x.arm o.f1).2)]) ∧ Cx w0.heap.size w0 w1 (.own dkR v (d.arm o.f1) :: (ex ++ r)) ∧ RfAt (ex ++ r) ((x.arm o.f1).1) A1 n1 c1 A2 n2 c2 := by
  have h26 := Try.underlying26
  have h28 := Try.underlying28
  have hu36 := Try.underlying36
  have hu50 := Try.underlying50
  have H0 := H.find k
  clear H k
  obtain ⟨f0, f1, f2, f3⟩ := o
  dsimp only at *
  subst hk
  by_cases hn : f1 < 0
  · have hda := Aside0.mk (show d.arm f1 = d from if_pos hn)
    have hxa : x.arm f1 = (x, 1) := if_pos hn
    have hie := Aside0.mk (show (if f1 < 0 then some (1 : Int) else none) = some 1 from if_pos hn)
    rw [hda.out, hxa, hie.out]
    dsimp only
    clear hxa
    have HF1 := Aside0.mk hf1
    have HL := Aside0.mk hl
    have HG := Aside0.mk hg
    have HR := Aside0.mk h
    clear hf1 hl hg h
    go_enter Try.func22, Try.ntmps22
    go_wp2_with fail
    ((first | apply Cx.genCall | apply Cx.genCode | apply Cx.genList); (focus ((repeat (with_reducible (first | exact (H0).toS | exact At.here | apply At.there | apply CxS.drewN | apply CxS.drew | apply CxS.alloc | apply CxS.set | apply CxS.setRow))))); clear H0; intro wa Ha)
    (try simp only [List.setIfInBounds_toArray, List.set_cons_zero, List.set_cons_succ] at Ha)
    refine (dk_arm (d := d) f1 Ha (by repeat (with_reducible (first | exact At.here | apply At.there)))).mono ?_
    rintro e wb ⟨rfl, Hy⟩
    clear Ha
    rw [hie.out, errW_some]
    rw [hda.out] at Hy
    clear hie hda
    have F := (Hy).facts; simp only [factsOf, Asr.facts, blkFacts, cellsAre, List.toList_toArray, forall_const, Nat.zero_add, Nat.reduceAdd, and_true, true_and] at F
    go_wp2_with fail
    clear F
    ((first | apply Cx.genCall | apply Cx.genCode | apply Cx.genList); (focus ((repeat (with_reducible (first | exact (Hy).toS | exact At.here | apply At.there | apply CxS.drewN | apply CxS.drew | apply CxS.alloc | apply CxS.set | apply CxS.setRow))))); clear Hy; intro Wn Hy)
    (try simp only [List.setIfInBounds_toArray, List.set_cons_zero, List.set_cons_succ] at Hy)
    obtain ⟨A3, hA⟩ : ∃ A3, A3 = A1 := ⟨_, rfl⟩
    subst hA
    obtain ⟨n3, hA⟩ : ∃ A3, A3 = n1 := ⟨_, rfl⟩
    subst hA
    obtain ⟨c3, hA⟩ : ∃ A3, A3 = c1 := ⟨_, rfl⟩
    subst hA
    obtain ⟨A4, hA⟩ : ∃ A3, A3 = A2 := ⟨_, rfl⟩
    subst hA
    obtain ⟨n4, hA⟩ : ∃ A3, A3 = n2 := ⟨_, rfl⟩
    subst hA
    obtain ⟨c4, hA⟩ : ∃ A3, A3 = c2 := ⟨_, rfl⟩
    subst hA
    obtain ⟨ex, hex⟩ : ∃ ex : List Asr, ex = [] := ⟨_, rfl⟩
    have hr : r = ex ++ r := by rw [hex]; rfl
    have HR3 : Aside0 (RfAt (ex ++ r) x A3 n3 c3 A4 n4 c4) := ⟨by rw [← hr]; exact HR.out⟩
    rw [show r = ex ++ r from hr] at Hy
    clear hr hex
    obtain ⟨y, hy⟩ : ∃ y, y = x := ⟨_, rfl⟩
    rw [← hy] at HR3 Hy
    have HY := Aside0.mk hy
    clear hy
    (try (go_wp2_with fail))
    have Hz := (Hy.toS.drew).cx
    clear Hy
    refine wp_region_held_drew (S := fun W => W.heap[w.heap.size]? = some (.cells (rfC A3 n3 c3 A4 n4 c4 y.steps y.left y.armed y.gone) 50 (0, 0))) (by kernel_rfl) (Hz.blk (by repeat (with_reducible (first | exact At.here | apply At.there)))) (fun hH_ => ?_)
    generalize Wn.drew = Wz at *
    (refine wpAnyH_take (i := 0) rfl (by kernel_rfl) (by kernel_rfl) (by kernel_rfl) (fun _ _ _ h => h) (yieldsIf_load_mid (by rfl) 50 (.tmp 4) rfl (w.heap.size) (0) rfl ([.slice A3 n3 c3, .slice A4 n4 c4, .int .i64 y.steps, .int .i64 y.left, .bool y.armed, .bool y.gone]) _ (fun W h => rangeAt_blk h) Try.underlying50 rfl (rf_info)) hH_ ?_; simp only [List.getElem_toArray, List.getElem_cons_succ, List.getElem_cons_zero, Act.put, List.setIfInBounds_toArray, List.set_cons_zero, List.set_cons_succ])
    (refine wpAnyH_take (i := 1) (v := ?_) rfl (by kernel_rfl) (by kernel_rfl) (by kernel_rfl) (fun _ _ _ h => h) (Or.inl ⟨by rfl, ?_⟩) hH_ ?_; rotate_left; (focus (intro w_ hSw_; go_simp; try (with_reducible rfl))); simp only [List.getElem_toArray, List.getElem_cons_succ, List.getElem_cons_zero, Act.put, List.setIfInBounds_toArray, List.set_cons_zero, List.set_cons_succ])
    (refine wpAnyH_take (i := 3) (v := ?_) rfl (by kernel_rfl) (by kernel_rfl) (by kernel_rfl) (fun _ _ _ h => h) (Or.inl ⟨by rfl, ?_⟩) hH_ ?_; rotate_left; (focus (intro w_ hSw_; go_simp; try (with_reducible rfl))); simp only [List.getElem_toArray, List.getElem_cons_succ, List.getElem_cons_zero, Act.put, List.setIfInBounds_toArray, List.set_cons_zero, List.set_cons_succ])
    cases hq : (numI (some 1) == 1)
    · (refine wpAnyH_ready (rs := [2]) (by kernel_rfl) (by simp) ?_; refine AllReadyH.cons rfl (fun K hK => ?_) AllReadyH.nil; go_simp; go_at_call 38; refine (num_calls (some 1) _).mono ?_; rintro e w' ⟨rfl, ⟨nn_, rfl⟩⟩; have Hy := (Hz.toS.drewN nn_).cx; clear Hz; (try go_simp); refine hK.out _ _ (Hy.blk (by repeat (with_reducible (first | exact At.here | apply At.there)))) (fun hH2_ => ?_); clear hK K hH_; have hH_ := hH2_; clear hH2_; try simp only [List.getElem_toArray, List.getElem_cons_succ, List.getElem_cons_zero, Act.put, List.setIfInBounds_toArray, List.set_cons_zero, List.set_cons_succ])
      (refine wpAnyH_take (i := 4) (v := ?_) rfl (by kernel_rfl) (by kernel_rfl) (by kernel_rfl) (fun _ _ _ h => h) (Or.inl ⟨by rfl, ?_⟩) hH_ ?_; rotate_left; (focus (intro w_ hSw_; go_simp; try (with_reducible rfl))); simp only [List.getElem_toArray, List.getElem_cons_succ, List.getElem_cons_zero, Act.put, List.setIfInBounds_toArray, List.set_cons_zero, List.set_cons_succ])
      try rw [hq]
      (refine wpAnyH_take (i := 5) (v := ?_) rfl (by kernel_rfl) (by kernel_rfl) (by kernel_rfl) (fun _ _ _ h => h) (Or.inl ⟨by rfl, ?_⟩) hH_ ?_; rotate_left; (focus (intro w_ hSw_; go_simp; try (with_reducible rfl))); simp only [List.getElem_toArray, List.getElem_cons_succ, List.getElem_cons_zero, Act.put, List.setIfInBounds_toArray, List.set_cons_zero, List.set_cons_succ])
      (refine wpAnyH_take (i := 6) (v := undef) rfl (by kernel_rfl) (by kernel_rfl) (by kernel_rfl) (fun _ _ _ h => h) (Or.inr ⟨by rfl, rfl⟩) hH_ ?_; simp only [List.getElem_toArray, List.getElem_cons_succ, List.getElem_cons_zero, Act.put, List.setIfInBounds_toArray, List.set_cons_zero, List.set_cons_succ])
      (refine wpAnyH_take (i := 7) (v := ?_) rfl (by kernel_rfl) (by kernel_rfl) (by kernel_rfl) (fun _ _ _ h => h) (Or.inl ⟨by rfl, ?_⟩) hH_ ?_; rotate_left; (focus (intro w_ hSw_; go_simp; try (with_reducible rfl))); simp only [List.getElem_toArray, List.getElem_cons_succ, List.getElem_cons_zero, Act.put, List.setIfInBounds_toArray, List.set_cons_zero, List.set_cons_succ])
      (refine wpAnyH_ready (rs := [8]) (by kernel_rfl) (by simp) ?_; refine AllReadyH.cons rfl (fun K hK => ?_) AllReadyH.nil; have F := (Hy).facts; simp only [factsOf, Asr.facts, blkFacts, cellsAre, List.toList_toArray, forall_const, Nat.zero_add, Nat.reduceAdd, and_true, true_and] at F; go_simp; refine Cx.genP (C := K _) (by (repeat (with_reducible (first | exact (Hy).toS | exact At.here | apply At.there | apply CxS.drewN | apply CxS.drew | apply CxS.alloc | apply CxS.set | apply CxS.setRow)))) (fun Wn Hn => ?_); clear F Hy; have Hy := Hn; clear Hn; (try simp only [List.setIfInBounds_toArray, List.set_cons_zero, List.set_cons_succ] at Hy); refine hK.out _ _ (Hy.blk (by repeat (with_reducible (first | exact At.here | apply At.there)))) (fun hH2_ => ?_); clear hK K hH_; have hH_ := hH2_; clear hH2_; try simp only [List.getElem_toArray, List.getElem_cons_succ, List.getElem_cons_zero, Act.put, List.setIfInBounds_toArray, List.set_cons_zero, List.set_cons_succ])
      (refine wpAnyH_take (i := 9) (v := ?_) rfl (by kernel_rfl) (by kernel_rfl) (by kernel_rfl) (fun _ _ _ h => h) (Or.inl ⟨by rfl, ?_⟩) hH_ ?_; rotate_left; (focus (intro w_ hSw_; go_simp; try (with_reducible rfl))); simp only [List.getElem_toArray, List.getElem_cons_succ, List.getElem_cons_zero, Act.put, List.setIfInBounds_toArray, List.set_cons_zero, List.set_cons_succ])
      refine wpAnyH_done (by kernel_rfl) ?_ _
      clear hH_; have F := (Hy).facts; simp only [factsOf, Asr.facts, blkFacts, cellsAre, List.toList_toArray, forall_const, Nat.zero_add, Nat.reduceAdd, and_true, true_and] at F; go_wp2; ((try simp only [Exit.inBlock, Exit.then]); (apply Cx.atPost); (focus ((repeat (with_reducible (first | exact (Hy).toS | exact At.here | apply At.there | apply CxS.drewN | apply CxS.drew | apply CxS.alloc | apply CxS.set | apply CxS.setRow))))); intro HT); (try simp only [List.setIfInBounds_toArray, List.set_cons_zero, List.set_cons_succ] at HT); (try rw [← HY.out]); (try rw [← HB.out]); (try rw [← HSB.out]); rw [hq]; exact bodyPost_ret (results_ct rfl _ _ (w.heap.size + 1 + 1) _ (rfC A3 n3 c3 A4 n4 c4 y.steps y.left y.armed y.gone) (0, 0) _ rfl (HT.blk (b := w.heap.size + 1 + 1) (by repeat (with_reducible (first | exact At.here | apply At.there)))) Try.underlying50 rfl rf_info) rfl ⟨A3, n3, c3, A4, n4, c4, ex, by first | rfl | trivial, (((HT.drop (a := .blk w.heap.size _) (by repeat (with_reducible (first | exact At.here | apply At.there)))).drop (a := .blk (w.heap.size + 1) _) (by repeat (with_reducible (first | exact At.here | apply At.there)))).drop (a := .blk (w.heap.size + 1 + 1) _) (by repeat (with_reducible (first | exact At.here | apply At.there)))).find (a := .own dkR v _) (by repeat (with_reducible (first | exact At.here | apply At.there))), HR3.out⟩
    · (refine wpAnyH_ready (rs := [2]) (by kernel_rfl) (by simp) ?_; refine AllReadyH.cons rfl (fun K hK => ?_) AllReadyH.nil; go_simp; go_at_call 38; refine (num_calls (some 1) _).mono ?_; rintro e w' ⟨rfl, ⟨nn_, rfl⟩⟩; have Hy := (Hz.toS.drewN nn_).cx; clear Hz; (try go_simp); refine hK.out _ _ (Hy.blk (by repeat (with_reducible (first | exact At.here | apply At.there)))) (fun hH2_ => ?_); clear hK K hH_; have hH_ := hH2_; clear hH2_; try simp only [List.getElem_toArray, List.getElem_cons_succ, List.getElem_cons_zero, Act.put, List.setIfInBounds_toArray, List.set_cons_zero, List.set_cons_succ])
      (refine wpAnyH_take (i := 4) (v := ?_) rfl (by kernel_rfl) (by kernel_rfl) (by kernel_rfl) (fun _ _ _ h => h) (Or.inl ⟨by rfl, ?_⟩) hH_ ?_; rotate_left; (focus (intro w_ hSw_; go_simp; try (with_reducible rfl))); simp only [List.getElem_toArray, List.getElem_cons_succ, List.getElem_cons_zero, Act.put, List.setIfInBounds_toArray, List.set_cons_zero, List.set_cons_succ])
      try rw [hq]
      (refine wpAnyH_take (i := 5) (v := ?_) rfl (by kernel_rfl) (by kernel_rfl) (by kernel_rfl) (fun _ _ _ h => h) (Or.inl ⟨by rfl, ?_⟩) hH_ ?_; rotate_left; (focus (intro w_ hSw_; go_simp; try (with_reducible rfl))); simp only [List.getElem_toArray, List.getElem_cons_succ, List.getElem_cons_zero, Act.put, List.setIfInBounds_toArray, List.set_cons_zero, List.set_cons_succ])
      (refine wpAnyH_take (i := 6) (v := ?_) rfl (by kernel_rfl) (by kernel_rfl) (by kernel_rfl) (fun _ _ _ h => h) (Or.inl ⟨by rfl, ?_⟩) hH_ ?_; rotate_left; (focus (intro w_ hSw_; go_simp; try (with_reducible rfl))); simp only [List.getElem_toArray, List.getElem_cons_succ, List.getElem_cons_zero, Act.put, List.setIfInBounds_toArray, List.set_cons_zero, List.set_cons_succ])
      (refine wpAnyH_take (i := 7) (v := ?_) rfl (by kernel_rfl) (by kernel_rfl) (by kernel_rfl) (fun _ _ _ h => h) (Or.inl ⟨by rfl, ?_⟩) hH_ ?_; rotate_left; (focus (intro w_ hSw_; go_simp; try (with_reducible rfl))); simp only [List.getElem_toArray, List.getElem_cons_succ, List.getElem_cons_zero, Act.put, List.setIfInBounds_toArray, List.set_cons_zero, List.set_cons_succ])
      (refine wpAnyH_ready (rs := [8]) (by kernel_rfl) (by simp) ?_; refine AllReadyH.cons rfl (fun K hK => ?_) AllReadyH.nil; have F := (Hy).facts; simp only [factsOf, Asr.facts, blkFacts, cellsAre, List.toList_toArray, forall_const, Nat.zero_add, Nat.reduceAdd, and_true, true_and] at F; go_simp; refine Cx.genP (C := K _) (by (repeat (with_reducible (first | exact (Hy).toS | exact At.here | apply At.there | apply CxS.drewN | apply CxS.drew | apply CxS.alloc | apply CxS.set | apply CxS.setRow)))) (fun Wn Hn => ?_); clear F Hy; have Hy := Hn; clear Hn; (try simp only [List.setIfInBounds_toArray, List.set_cons_zero, List.set_cons_succ] at Hy); refine hK.out _ _ (Hy.blk (by repeat (with_reducible (first | exact At.here | apply At.there)))) (fun hH2_ => ?_); clear hK K hH_; have hH_ := hH2_; clear hH2_; try simp only [List.getElem_toArray, List.getElem_cons_succ, List.getElem_cons_zero, Act.put, List.setIfInBounds_toArray, List.set_cons_zero, List.set_cons_succ])
      (refine wpAnyH_take (i := 9) (v := ?_) rfl (by kernel_rfl) (by kernel_rfl) (by kernel_rfl) (fun _ _ _ h => h) (Or.inl ⟨by rfl, ?_⟩) hH_ ?_; rotate_left; (focus (intro w_ hSw_; go_simp; try (with_reducible rfl))); simp only [List.getElem_toArray, List.getElem_cons_succ, List.getElem_cons_zero, Act.put, List.setIfInBounds_toArray, List.set_cons_zero, List.set_cons_succ])
      refine wpAnyH_done (by kernel_rfl) ?_ _
      clear hH_; have F := (Hy).facts; simp only [factsOf, Asr.facts, blkFacts, cellsAre, List.toList_toArray, forall_const, Nat.zero_add, Nat.reduceAdd, and_true, true_and] at F; go_wp2; ((try simp only [Exit.inBlock, Exit.then]); (apply Cx.atPost); (focus ((repeat (with_reducible (first | exact (Hy).toS | exact At.here | apply At.there | apply CxS.drewN | apply CxS.drew | apply CxS.alloc | apply CxS.set | apply CxS.setRow))))); intro HT); (try simp only [List.setIfInBounds_toArray, List.set_cons_zero, List.set_cons_succ] at HT); (try rw [← HY.out]); (try rw [← HB.out]); (try rw [← HSB.out]); rw [hq]; exact bodyPost_ret (results_ct rfl _ _ (w.heap.size + 1 + 1) _ (rfC A3 n3 c3 A4 n4 c4 y.steps y.left y.armed y.gone) (0, 0) _ rfl (HT.blk (b := w.heap.size + 1 + 1) (by repeat (with_reducible (first | exact At.here | apply At.there)))) Try.underlying50 rfl rf_info) rfl ⟨A3, n3, c3, A4, n4, c4, ex, by first | rfl | trivial, (((HT.drop (a := .blk w.heap.size _) (by repeat (with_reducible (first | exact At.here | apply At.there)))).drop (a := .blk (w.heap.size + 1) _) (by repeat (with_reducible (first | exact At.here | apply At.there)))).drop (a := .blk (w.heap.size + 1 + 1) _) (by repeat (with_reducible (first | exact At.here | apply At.there)))).find (a := .own dkR v _) (by repeat (with_reducible (first | exact At.here | apply At.there))), HR3.out⟩
  · have hda := Aside0.mk (show d.arm f1 = { d with armed := true, left := f1 } from if_neg hn)
    have hxa := Aside0.mk (show x.arm f1 = ({ x with armed := true, left := f1 }, 0) from if_neg hn)
    have hie := Aside0.mk (show (if f1 < 0 then some (1 : Int) else none) = none from if_neg hn)
    have HY0 := Aside0.mk (show ({ x with armed := true, left := f1 } : Rf) = (x.arm f1).1 by rw [hxa.out])
    have HB := Aside0.mk (show (0 : Int) = (x.arm f1).2 by rw [hxa.out])
    rw [hie.out]
    have HF1 := Aside0.mk hf1
    have HL := Aside0.mk hl
    have HG := Aside0.mk hg
    have HR := Aside0.mk h
    clear hf1 hl hg h hda
    go_enter Try.func22, Try.ntmps22
    go_wp2_with fail
    ((first | apply Cx.genCall | apply Cx.genCode | apply Cx.genList); (focus ((repeat (with_reducible (first | exact (H0).toS | exact At.here | apply At.there | apply CxS.drewN | apply CxS.drew | apply CxS.alloc | apply CxS.set | apply CxS.setRow))))); clear H0; intro wa Ha)
    (try simp only [List.setIfInBounds_toArray, List.set_cons_zero, List.set_cons_succ] at Ha)
    refine (dk_arm (d := d) f1 Ha (by repeat (with_reducible (first | exact At.here | apply At.there)))).mono ?_
    rintro e wb ⟨rfl, Hy⟩
    clear Ha
    rw [hie.out, errW_none]
    have F := (Hy).facts; simp only [factsOf, Asr.facts, blkFacts, cellsAre, List.toList_toArray, forall_const, Nat.zero_add, Nat.reduceAdd, and_true, true_and] at F
    go_wp2_with fail
    clear F
    have Hz := (Hy.toS.drew).cx
    clear Hy
    refine wp_region_held_drew (S := fun W => W.heap[w.heap.size + 1]? = some (.cells #[.int .i64 4, .int .i64 f1, .int .u8 f2, .slice A f3.length c] 36 (0, 0))) (by kernel_rfl) (Hz.blk (by repeat (with_reducible (first | exact At.here | apply At.there)))) (fun hH_ => ?_)
    have Hy := Hz
    clear Hz
    generalize wb.drew = Wz at *
    (refine wpAnyH_take (i := 0) (v := ?_) rfl (by kernel_rfl) (by kernel_rfl) (by kernel_rfl) (fun _ _ _ h => h) (Or.inl ⟨by rfl, ?_⟩) hH_ ?_; rotate_left; (focus (intro w_ hSw_; go_simp; try (with_reducible rfl))); simp only [List.getElem_toArray, List.getElem_cons_succ, List.getElem_cons_zero, Act.put, List.setIfInBounds_toArray, List.set_cons_zero, List.set_cons_succ])
    (refine wpAnyH_take (i := 1) rfl (by kernel_rfl) (by kernel_rfl) (by kernel_rfl) (fun _ _ _ h => h) (yieldsIf_load_cell (by rfl) 3 (.tmp 73) rfl (w.heap.size + 1) (1) rfl (.int .i64 f1) (run_isAgg_plain Try.underlying3 rfl) (fun W h => (cell_of h 1).trans rfl)) hH_ ?_; simp only [List.getElem_toArray, List.getElem_cons_succ, List.getElem_cons_zero, Act.put, List.setIfInBounds_toArray, List.set_cons_zero, List.set_cons_succ])
    (refine wpAnyH_take (i := 2) (v := ?_) rfl (by kernel_rfl) (by kernel_rfl) (by kernel_rfl) (fun _ _ _ h => h) (Or.inl ⟨by rfl, ?_⟩) hH_ ?_; rotate_left; (focus (intro w_ hSw_; go_simp; try (with_reducible rfl))); simp only [List.getElem_toArray, List.getElem_cons_succ, List.getElem_cons_zero, Act.put, List.setIfInBounds_toArray, List.set_cons_zero, List.set_cons_succ])
    (refine wpAnyH_ready (rs := [3]) (by kernel_rfl) (by simp) ?_; refine AllReadyH.cons rfl (fun K hK => ?_) AllReadyH.nil; have F := (Hy).facts; simp only [factsOf, Asr.facts, blkFacts, cellsAre, List.toList_toArray, forall_const, Nat.zero_add, Nat.reduceAdd, and_true, true_and] at F; go_simp; refine Cx.genP (C := K _) (by (repeat (with_reducible (first | exact (Hy).toS | exact At.here | apply At.there | apply CxS.drewN | apply CxS.drew | apply CxS.alloc | apply CxS.set | apply CxS.setRow)))) (fun Wn Hn => ?_); clear F Hy; have Hy := Hn; clear Hn; (try simp only [List.setIfInBounds_toArray, List.set_cons_zero, List.set_cons_succ] at Hy); refine hK.out _ _ (Hy.blk (by repeat (with_reducible (first | exact At.here | apply At.there)))) (fun hH2_ => ?_); clear hK K hH_; have hH_ := hH2_; clear hH2_; try simp only [List.getElem_toArray, List.getElem_cons_succ, List.getElem_cons_zero, Act.put, List.setIfInBounds_toArray, List.set_cons_zero, List.set_cons_succ])
    (refine wpAnyH_take (i := 4) (v := ?_) rfl (by kernel_rfl) (by kernel_rfl) (by kernel_rfl) (fun _ _ _ h => h) (Or.inl ⟨by rfl, ?_⟩) hH_ ?_; rotate_left; (focus (intro w_ hSw_; go_simp; try (with_reducible rfl))); simp only [List.getElem_toArray, List.getElem_cons_succ, List.getElem_cons_zero, Act.put, List.setIfInBounds_toArray, List.set_cons_zero, List.set_cons_succ])
    (refine wpAnyH_ready (rs := [5]) (by kernel_rfl) (by simp) ?_; refine AllReadyH.cons rfl (fun K hK => ?_) AllReadyH.nil; have F := (Hy).facts; simp only [factsOf, Asr.facts, blkFacts, cellsAre, List.toList_toArray, forall_const, Nat.zero_add, Nat.reduceAdd, and_true, true_and] at F; go_simp; refine Cx.genP (C := K _) (by (repeat (with_reducible (first | exact (Hy).toS | exact At.here | apply At.there | apply CxS.drewN | apply CxS.drew | apply CxS.alloc | apply CxS.set | apply CxS.setRow)))) (fun Wn Hn => ?_); clear F Hy; have Hy := Hn; clear Hn; (try simp only [List.setIfInBounds_toArray, List.set_cons_zero, List.set_cons_succ] at Hy); refine hK.out _ _ (Hy.blk (by repeat (with_reducible (first | exact At.here | apply At.there)))) (fun hH2_ => ?_); clear hK K hH_; have hH_ := hH2_; clear hH2_; try simp only [List.getElem_toArray, List.getElem_cons_succ, List.getElem_cons_zero, Act.put, List.setIfInBounds_toArray, List.set_cons_zero, List.set_cons_succ])
    refine wpAnyH_done (by kernel_rfl) ?_ _
    clear hH_
    obtain ⟨A3, hA⟩ : ∃ A3, A3 = A1 := ⟨_, rfl⟩
    subst hA
    obtain ⟨n3, hA⟩ : ∃ A3, A3 = n1 := ⟨_, rfl⟩
    subst hA
    obtain ⟨c3, hA⟩ : ∃ A3, A3 = c1 := ⟨_, rfl⟩
    subst hA
    obtain ⟨A4, hA⟩ : ∃ A3, A3 = A2 := ⟨_, rfl⟩
    subst hA
    obtain ⟨n4, hA⟩ : ∃ A3, A3 = n2 := ⟨_, rfl⟩
    subst hA
    obtain ⟨c4, hA⟩ : ∃ A3, A3 = c2 := ⟨_, rfl⟩
    subst hA
    obtain ⟨ex, hex⟩ : ∃ ex : List Asr, ex = [] := ⟨_, rfl⟩
    have hr : r = ex ++ r := by rw [hex]; rfl
    obtain ⟨y, hy⟩ : ∃ y, y = ({ x with armed := true, left := f1 } : Rf) := ⟨_, rfl⟩
    have HR3 : Aside0 (RfAt (ex ++ r) y A3 n3 c3 A4 n4 c4) := ⟨by rw [← hr, hy]; exact HR.out.same rfl rfl⟩
    have Hx : Cx w0.heap.size w0 Wn (.blk w.heap.size (.cells (rfC A3 n3 c3 A4 n4 c4 y.steps y.left y.armed y.gone) 50 (0, 0)) :: .blk (w.heap.size + 1) (.cells #[.int .i64 4, .int .i64 f1, .int .u8 f2, .slice A f3.length c] 36 (0, 0)) :: .own dkR v (d.arm f1) :: .blk (w.heap.size + 1 + 1) (.cells (rfC none 0 0 none 0 0 0 0 false false) 50 (0, 0)) :: (ex ++ r)) := by
      rw [hy, hex, List.nil_append]
      dsimp only
      exact ((Hy.find (a := .blk (w.heap.size + 1 + 1) _) (by repeat (with_reducible (first | exact At.here | apply At.there)))).find (a := .own dkR v _) (by repeat (with_reducible (first | exact At.here | apply At.there)))).find (a := .blk (w.heap.size + 1) _) (by repeat (with_reducible (first | exact At.here | apply At.there))) |>.find (a := .blk w.heap.size _) (by repeat (with_reducible (first | exact At.here | apply At.there)))
    clear Hy
    have Hy := Hx
    have HY := Aside0.mk (hy.trans HY0.out)
    clear hy Hx hr hex HY0
    (try (go_wp2_with fail))
    have Hz := (Hy.toS.drew).cx
    clear Hy
    refine wp_region_held_drew (S := fun W => W.heap[w.heap.size]? = some (.cells (rfC A3 n3 c3 A4 n4 c4 y.steps y.left y.armed y.gone) 50 (0, 0))) (by kernel_rfl) (Hz.blk (by repeat (with_reducible (first | exact At.here | apply At.there)))) (fun hH_ => ?_)
    generalize Wn.drew = Wz at *
    (refine wpAnyH_take (i := 0) rfl (by kernel_rfl) (by kernel_rfl) (by kernel_rfl) (fun _ _ _ h => h) (yieldsIf_load_mid (by rfl) 50 (.tmp 4) rfl (w.heap.size) (0) rfl ([.slice A3 n3 c3, .slice A4 n4 c4, .int .i64 y.steps, .int .i64 y.left, .bool y.armed, .bool y.gone]) _ (fun W h => rangeAt_blk h) Try.underlying50 rfl (rf_info)) hH_ ?_; simp only [List.getElem_toArray, List.getElem_cons_succ, List.getElem_cons_zero, Act.put, List.setIfInBounds_toArray, List.set_cons_zero, List.set_cons_succ])
    (refine wpAnyH_take (i := 1) (v := ?_) rfl (by kernel_rfl) (by kernel_rfl) (by kernel_rfl) (fun _ _ _ h => h) (Or.inl ⟨by rfl, ?_⟩) hH_ ?_; rotate_left; (focus (intro w_ hSw_; go_simp; try (with_reducible rfl))); simp only [List.getElem_toArray, List.getElem_cons_succ, List.getElem_cons_zero, Act.put, List.setIfInBounds_toArray, List.set_cons_zero, List.set_cons_succ])
    (refine wpAnyH_take (i := 3) (v := ?_) rfl (by kernel_rfl) (by kernel_rfl) (by kernel_rfl) (fun _ _ _ h => h) (Or.inl ⟨by rfl, ?_⟩) hH_ ?_; rotate_left; (focus (intro w_ hSw_; go_simp; try (with_reducible rfl))); simp only [List.getElem_toArray, List.getElem_cons_succ, List.getElem_cons_zero, Act.put, List.setIfInBounds_toArray, List.set_cons_zero, List.set_cons_succ])
    cases hq : (numI (none) == 0)
    · (refine wpAnyH_ready (rs := [2]) (by kernel_rfl) (by simp) ?_; refine AllReadyH.cons rfl (fun K hK => ?_) AllReadyH.nil; go_simp; go_at_call 38; refine (num_calls (none) _).mono ?_; rintro e w' ⟨rfl, ⟨nn_, rfl⟩⟩; have Hy := (Hz.toS.drewN nn_).cx; clear Hz; (try go_simp); refine hK.out _ _ (Hy.blk (by repeat (with_reducible (first | exact At.here | apply At.there)))) (fun hH2_ => ?_); clear hK K hH_; have hH_ := hH2_; clear hH2_; try simp only [List.getElem_toArray, List.getElem_cons_succ, List.getElem_cons_zero, Act.put, List.setIfInBounds_toArray, List.set_cons_zero, List.set_cons_succ])
      (refine wpAnyH_take (i := 4) (v := ?_) rfl (by kernel_rfl) (by kernel_rfl) (by kernel_rfl) (fun _ _ _ h => h) (Or.inl ⟨by rfl, ?_⟩) hH_ ?_; rotate_left; (focus (intro w_ hSw_; go_simp; try (with_reducible rfl))); simp only [List.getElem_toArray, List.getElem_cons_succ, List.getElem_cons_zero, Act.put, List.setIfInBounds_toArray, List.set_cons_zero, List.set_cons_succ])
      try rw [hq]
      (refine wpAnyH_take (i := 5) (v := ?_) rfl (by kernel_rfl) (by kernel_rfl) (by kernel_rfl) (fun _ _ _ h => h) (Or.inl ⟨by rfl, ?_⟩) hH_ ?_; rotate_left; (focus (intro w_ hSw_; go_simp; try (with_reducible rfl))); simp only [List.getElem_toArray, List.getElem_cons_succ, List.getElem_cons_zero, Act.put, List.setIfInBounds_toArray, List.set_cons_zero, List.set_cons_succ])
      (refine wpAnyH_take (i := 6) (v := undef) rfl (by kernel_rfl) (by kernel_rfl) (by kernel_rfl) (fun _ _ _ h => h) (Or.inr ⟨by rfl, rfl⟩) hH_ ?_; simp only [List.getElem_toArray, List.getElem_cons_succ, List.getElem_cons_zero, Act.put, List.setIfInBounds_toArray, List.set_cons_zero, List.set_cons_succ])
      (refine wpAnyH_take (i := 7) (v := ?_) rfl (by kernel_rfl) (by kernel_rfl) (by kernel_rfl) (fun _ _ _ h => h) (Or.inl ⟨by rfl, ?_⟩) hH_ ?_; rotate_left; (focus (intro w_ hSw_; go_simp; try (with_reducible rfl))); simp only [List.getElem_toArray, List.getElem_cons_succ, List.getElem_cons_zero, Act.put, List.setIfInBounds_toArray, List.set_cons_zero, List.set_cons_succ])
      (refine wpAnyH_ready (rs := [8]) (by kernel_rfl) (by simp) ?_; refine AllReadyH.cons rfl (fun K hK => ?_) AllReadyH.nil; have F := (Hy).facts; simp only [factsOf, Asr.facts, blkFacts, cellsAre, List.toList_toArray, forall_const, Nat.zero_add, Nat.reduceAdd, and_true, true_and] at F; go_simp; refine Cx.genP (C := K _) (by (repeat (with_reducible (first | exact (Hy).toS | exact At.here | apply At.there | apply CxS.drewN | apply CxS.drew | apply CxS.alloc | apply CxS.set | apply CxS.setRow)))) (fun Wn Hn => ?_); clear F Hy; have Hy := Hn; clear Hn; (try simp only [List.setIfInBounds_toArray, List.set_cons_zero, List.set_cons_succ] at Hy); refine hK.out _ _ (Hy.blk (by repeat (with_reducible (first | exact At.here | apply At.there)))) (fun hH2_ => ?_); clear hK K hH_; have hH_ := hH2_; clear hH2_; try simp only [List.getElem_toArray, List.getElem_cons_succ, List.getElem_cons_zero, Act.put, List.setIfInBounds_toArray, List.set_cons_zero, List.set_cons_succ])
      (refine wpAnyH_take (i := 9) (v := ?_) rfl (by kernel_rfl) (by kernel_rfl) (by kernel_rfl) (fun _ _ _ h => h) (Or.inl ⟨by rfl, ?_⟩) hH_ ?_; rotate_left; (focus (intro w_ hSw_; go_simp; try (with_reducible rfl))); simp only [List.getElem_toArray, List.getElem_cons_succ, List.getElem_cons_zero, Act.put, List.setIfInBounds_toArray, List.set_cons_zero, List.set_cons_succ])
      refine wpAnyH_done (by kernel_rfl) ?_ _
      clear hH_; have F := (Hy).facts; simp only [factsOf, Asr.facts, blkFacts, cellsAre, List.toList_toArray, forall_const, Nat.zero_add, Nat.reduceAdd, and_true, true_and] at F; go_wp2; ((try simp only [Exit.inBlock, Exit.then]); (apply Cx.atPost); (focus ((repeat (with_reducible (first | exact (Hy).toS | exact At.here | apply At.there | apply CxS.drewN | apply CxS.drew | apply CxS.alloc | apply CxS.set | apply CxS.setRow))))); intro HT); (try simp only [List.setIfInBounds_toArray, List.set_cons_zero, List.set_cons_succ] at HT); (try rw [← HY.out]); (try rw [← HB.out]); (try rw [← HSB.out]); rw [hq]; exact bodyPost_ret (results_ct rfl _ _ (w.heap.size + 1 + 1) _ (rfC A3 n3 c3 A4 n4 c4 y.steps y.left y.armed y.gone) (0, 0) _ rfl (HT.blk (b := w.heap.size + 1 + 1) (by repeat (with_reducible (first | exact At.here | apply At.there)))) Try.underlying50 rfl rf_info) rfl ⟨A3, n3, c3, A4, n4, c4, ex, by first | rfl | trivial, (((HT.drop (a := .blk w.heap.size _) (by repeat (with_reducible (first | exact At.here | apply At.there)))).drop (a := .blk (w.heap.size + 1) _) (by repeat (with_reducible (first | exact At.here | apply At.there)))).drop (a := .blk (w.heap.size + 1 + 1) _) (by repeat (with_reducible (first | exact At.here | apply At.there)))).find (a := .own dkR v _) (by repeat (with_reducible (first | exact At.here | apply At.there))), HR3.out⟩
    · (refine wpAnyH_ready (rs := [2]) (by kernel_rfl) (by simp) ?_; refine AllReadyH.cons rfl (fun K hK => ?_) AllReadyH.nil; go_simp; go_at_call 38; refine (num_calls (none) _).mono ?_; rintro e w' ⟨rfl, ⟨nn_, rfl⟩⟩; have Hy := (Hz.toS.drewN nn_).cx; clear Hz; (try go_simp); refine hK.out _ _ (Hy.blk (by repeat (with_reducible (first | exact At.here | apply At.there)))) (fun hH2_ => ?_); clear hK K hH_; have hH_ := hH2_; clear hH2_; try simp only [List.getElem_toArray, List.getElem_cons_succ, List.getElem_cons_zero, Act.put, List.setIfInBounds_toArray, List.set_cons_zero, List.set_cons_succ])
      (refine wpAnyH_take (i := 4) (v := ?_) rfl (by kernel_rfl) (by kernel_rfl) (by kernel_rfl) (fun _ _ _ h => h) (Or.inl ⟨by rfl, ?_⟩) hH_ ?_; rotate_left; (focus (intro w_ hSw_; go_simp; try (with_reducible rfl))); simp only [List.getElem_toArray, List.getElem_cons_succ, List.getElem_cons_zero, Act.put, List.setIfInBounds_toArray, List.set_cons_zero, List.set_cons_succ])
      try rw [hq]
      (refine wpAnyH_take (i := 5) (v := ?_) rfl (by kernel_rfl) (by kernel_rfl) (by kernel_rfl) (fun _ _ _ h => h) (Or.inl ⟨by rfl, ?_⟩) hH_ ?_; rotate_left; (focus (intro w_ hSw_; go_simp; try (with_reducible rfl))); simp only [List.getElem_toArray, List.getElem_cons_succ, List.getElem_cons_zero, Act.put, List.setIfInBounds_toArray, List.set_cons_zero, List.set_cons_succ])
      (refine wpAnyH_take (i := 6) (v := ?_) rfl (by kernel_rfl) (by kernel_rfl) (by kernel_rfl) (fun _ _ _ h => h) (Or.inl ⟨by rfl, ?_⟩) hH_ ?_; rotate_left; (focus (intro w_ hSw_; go_simp; try (with_reducible rfl))); simp only [List.getElem_toArray, List.getElem_cons_succ, List.getElem_cons_zero, Act.put, List.setIfInBounds_toArray, List.set_cons_zero, List.set_cons_succ])
      (refine wpAnyH_take (i := 7) (v := ?_) rfl (by kernel_rfl) (by kernel_rfl) (by kernel_rfl) (fun _ _ _ h => h) (Or.inl ⟨by rfl, ?_⟩) hH_ ?_; rotate_left; (focus (intro w_ hSw_; go_simp; try (with_reducible rfl))); simp only [List.getElem_toArray, List.getElem_cons_succ, List.getElem_cons_zero, Act.put, List.setIfInBounds_toArray, List.set_cons_zero, List.set_cons_succ])
      (refine wpAnyH_ready (rs := [8]) (by kernel_rfl) (by simp) ?_; refine AllReadyH.cons rfl (fun K hK => ?_) AllReadyH.nil; have F := (Hy).facts; simp only [factsOf, Asr.facts, blkFacts, cellsAre, List.toList_toArray, forall_const, Nat.zero_add, Nat.reduceAdd, and_true, true_and] at F; go_simp; refine Cx.genP (C := K _) (by (repeat (with_reducible (first | exact (Hy).toS | exact At.here | apply At.there | apply CxS.drewN | apply CxS.drew | apply CxS.alloc | apply CxS.set | apply CxS.setRow)))) (fun Wn Hn => ?_); clear F Hy; have Hy := Hn; clear Hn; (try simp only [List.setIfInBounds_toArray, List.set_cons_zero, List.set_cons_succ] at Hy); refine hK.out _ _ (Hy.blk (by repeat (with_reducible (first | exact At.here | apply At.there)))) (fun hH2_ => ?_); clear hK K hH_; have hH_ := hH2_; clear hH2_; try simp only [List.getElem_toArray, List.getElem_cons_succ, List.getElem_cons_zero, Act.put, List.setIfInBounds_toArray, List.set_cons_zero, List.set_cons_succ])
      (refine wpAnyH_take (i := 9) (v := ?_) rfl (by kernel_rfl) (by kernel_rfl) (by kernel_rfl) (fun _ _ _ h => h) (Or.inl ⟨by rfl, ?_⟩) hH_ ?_; rotate_left; (focus (intro w_ hSw_; go_simp; try (with_reducible rfl))); simp only [List.getElem_toArray, List.getElem_cons_succ, List.getElem_cons_zero, Act.put, List.setIfInBounds_toArray, List.set_cons_zero, List.set_cons_succ])
      refine wpAnyH_done (by kernel_rfl) ?_ _
      clear hH_; have F := (Hy).facts; simp only [factsOf, Asr.facts, blkFacts, cellsAre, List.toList_toArray, forall_const, Nat.zero_add, Nat.reduceAdd, and_true, true_and] at F; go_wp2; ((try simp only [Exit.inBlock, Exit.then]); (apply Cx.atPost); (focus ((repeat (with_reducible (first | exact (Hy).toS | exact At.here | apply At.there | apply CxS.drewN | apply CxS.drew | apply CxS.alloc | apply CxS.set | apply CxS.setRow))))); intro HT); (try simp only [List.setIfInBounds_toArray, List.set_cons_zero, List.set_cons_succ] at HT); (try rw [← HY.out]); (try rw [← HB.out]); (try rw [← HSB.out]); rw [hq]; exact bodyPost_ret (results_ct rfl _ _ (w.heap.size + 1 + 1) _ (rfC A3 n3 c3 A4 n4 c4 y.steps y.left y.armed y.gone) (0, 0) _ rfl (HT.blk (b := w.heap.size + 1 + 1) (by repeat (with_reducible (first | exact At.here | apply At.there)))) Try.underlying50 rfl rf_info) rfl ⟨A3, n3, c3, A4, n4, c4, ex, by first | rfl | trivial, (((HT.drop (a := .blk w.heap.size _) (by repeat (with_reducible (first | exact At.here | apply At.there)))).drop (a := .blk (w.heap.size + 1) _) (by repeat (with_reducible (first | exact At.here | apply At.there)))).drop (a := .blk (w.heap.size + 1 + 1) _) (by repeat (with_reducible (first | exact At.here | apply At.there)))).find (a := .own dkR v _) (by repeat (with_reducible (first | exact At.here | apply At.there))), HR3.out⟩
set_option maxRecDepth 100000 in
set_option maxHeartbeats 8000000 in
include hf1 H k h hg hl in
theorem do_read (hk1 : o.f0 ≠ 1) (hk2 : o.f0 ≠ 2) (hk4 : o.f0 ≠ 4) (hk5 : o.f0 ≠ 5) : Calls Try.prog 22 #[v, .agg (rfC A1 n1 c1 A2 n2 c2 x.steps x.left x.armed x.gone), .agg #[.int .i64 o.f0, .int .i64 o.f1, .int .u8 o.f2, .slice A o.f3.length c]] w fun e w1 => ∃ (A1 : Option Addr) (n1 c1 : Nat) (A2 : Option Addr) (n2 c2 : Nat) (ex : List Asr), e = .returned (.tuple #[.agg (rfC A1 n1 c1 A2 n2 c2 (x).steps (x).left (x).armed (x).gone), .bool ((numI (d.read o.f1).2 == (x.readL o.f1).2 && decide ((d.read o.f1).1 = (x.readL o.f1).1)))]) ∧ Cx w0.heap.size w0 w1 (.own dkR v (d) :: (ex ++ r)) ∧ RfAt (ex ++ r) (x) A1 n1 c1 A2 n2 c2 := by
  have h26 := Try.underlying26
  have h28 := Try.underlying28
  have hu36 := Try.underlying36
  have hu50 := Try.underlying50
  have hz := dk_zero
  have H0 := H.find k
  clear H k
  obtain ⟨f0, f1, f2, f3⟩ := o
  dsimp only at *
  have hb1 : (f0 == 1) = false := by simp [hk1]
  have hb2 : (f0 == 2) = false := by simp [hk2]
  have hb4 : (f0 == 4) = false := by simp [hk4]
  have hb5 : (f0 == 5) = false := by simp [hk5]
  have HF1 := Aside0.mk hf1
  have HL := Aside0.mk hl
  have HG := Aside0.mk hg
  have HR := Aside0.mk h
  clear hf1 hl hg h hk1 hk2 hk4 hk5
  go_enter Try.func22, Try.ntmps22
  go_wp2_with fail
  ((first | apply Cx.genCall | apply Cx.genCode | apply Cx.genList); (focus ((repeat (with_reducible (first | exact (H0).toS | exact At.here | apply At.there | apply CxS.drewN | apply CxS.drew | apply CxS.alloc | apply CxS.set | apply CxS.setRow))))); clear H0; intro wa Ha)
  (try simp only [List.setIfInBounds_toArray, List.set_cons_zero, List.set_cons_succ] at Ha)
  refine (dk_read (d := d) f1 HF1.out Ha (by repeat (with_reducible (first | exact At.here | apply At.there))) (by have := HL.out; omega)).mono ?_
  rintro e wb ⟨rfl, Hb⟩
  clear Ha
  have hl1 := dk_readLen (d := d) f1 Hb (by repeat (with_reducible (first | exact At.here | apply At.there)))
  have HL1 := Aside0.mk hl1
  clear hl1
  have F : True := trivial
  go_wp2_with ((((with_reducible refine gate_store (t := 34) (x := .tmp 11) (y := .tmp 22) rfl ?_); (apply Cx.atList); (focus ((repeat (with_reducible (first | exact (Hb).toS | exact At.here | apply At.there | apply CxS.drewN | apply CxS.drew | apply CxS.alloc | apply CxS.set | apply CxS.setRow))))); intro HT_; refine wpList_store_row rfl 34 (.tmp 11) (.tmp 22) rfl (wb.heap.size) (u8A (d.read f1).1) rfl rfl _ _ (HT_.blk (by repeat (with_reducible (first | exact At.here | apply At.there)))) (dk_isz HL1.out) (by rw [u8A_size, u8A_size, sz0_len, HL1.out]) (u8A_one _) ?_; clear HT_); clear F; (apply Cx.genList); (focus ((repeat (with_reducible (first | exact (Hb).toS | exact At.here | apply At.there | apply CxS.drewN | apply CxS.drew | apply CxS.alloc | apply CxS.set | apply CxS.setRow))))); clear Hb; intro wc Hc; have F := (Hc).facts; simp only [factsOf, Asr.facts, blkFacts, cellsAre, List.toList_toArray, forall_const, Nat.zero_add, Nat.reduceAdd, and_true, true_and] at F))
  clear F
  refine (rf_read (x := x) f1 Hc (((((HR.out.cons _).cons _).cons _).cons _).cons _) HG.out).mono ?_
  rintro e wd ⟨rfl, Hd, hl2⟩
  clear Hc
  have HL2 := Aside0.mk hl2
  clear hl2
  have F : True := trivial
  go_wp2_with ((((with_reducible refine gate_store (t := 34) (x := .tmp 13) (y := .tmp 29) rfl ?_); (apply Cx.atList); (focus ((repeat (with_reducible (first | exact (Hd).toS | exact At.here | apply At.there | apply CxS.drewN | apply CxS.drew | apply CxS.alloc | apply CxS.set | apply CxS.setRow))))); intro HT_; refine wpList_store_row rfl 34 (.tmp 13) (.tmp 29) rfl (wd.heap.size) (u8A (x.readL f1).1) rfl rfl _ _ (HT_.blk (by repeat (with_reducible (first | exact At.here | apply At.there)))) (dk_isz HL2.out) (by rw [u8A_size, u8A_size, sz0_len, HL2.out]) (u8A_one _) ?_; clear HT_); clear F; (apply Cx.genList); (focus ((repeat (with_reducible (first | exact (Hd).toS | exact At.here | apply At.there | apply CxS.drewN | apply CxS.drew | apply CxS.alloc | apply CxS.set | apply CxS.setRow))))); clear Hd; intro we He; have F := (He).facts; simp only [factsOf, Asr.facts, blkFacts, cellsAre, List.toList_toArray, forall_const, Nat.zero_add, Nat.reduceAdd, and_true, true_and] at F))
  clear F
  obtain ⟨sb, hsb⟩ : ∃ sb, sb = decide ((d.read f1).1 = (x.readL f1).1) := ⟨_, rfl⟩
  have heq : ∀ W, (Op.equalIn 10000 34 (.agg ((d.read f1).1.map (Value.int .u8)).toArray) (.agg ((x.readL f1).1.map (Value.int .u8)).toArray)).run Try.prog W = .ok sb W := fun W => by rw [hsb]; exact dk_eql _ _ HL1.out HL2.out W
  have HSB := Aside0.mk hsb
  clear hsb
  have hi1 : (Try.prog.info? 34).map (·.size) = some ((d.read f1).1.map (Value.int .u8)).length := by rw [List.length_map, HL1.out]; exact dk_info
  have hi2 : (Try.prog.info? 34).map (·.size) = some ((x.readL f1).1.map (Value.int .u8)).length := by rw [List.length_map, HL2.out]; exact dk_info
  have Hx := (He.toS.drew).cx
  clear He
  refine wp_region_held_drew (S := fun W => W.rangeAt wb.heap.size 0 ((d.read f1).1.map (Value.int .u8)) ∧ W.rangeAt wd.heap.size 0 ((x.readL f1).1.map (Value.int .u8))) (by kernel_rfl) (⟨rangeAt_u8A (Hx.blk (b := wb.heap.size) (o := .cells (u8A (d.read f1).1) 34 (0, 0)) (by repeat (with_reducible (first | exact At.here | apply At.there)))), rangeAt_u8A (Hx.blk (b := wd.heap.size) (o := .cells (u8A (x.readL f1).1) 34 (0, 0)) (by repeat (with_reducible (first | exact At.here | apply At.there))))⟩) (fun hH_ => ?_)
  generalize we.drew = wf at *
  (refine wpAnyH_take (i := 0) (v := ?_) rfl (by kernel_rfl) (by kernel_rfl) (by kernel_rfl) (fun _ _ _ h => h) (Or.inl ⟨by rfl, ?_⟩) hH_ ?_; rotate_left; (focus (intro w_ hSw_; go_simp; try (with_reducible rfl))); simp only [List.getElem_toArray, List.getElem_cons_succ, List.getElem_cons_zero, Act.put, List.setIfInBounds_toArray, List.set_cons_zero, List.set_cons_succ])
  (refine wpAnyH_take (i := 1) (v := ?_) rfl (by kernel_rfl) (by kernel_rfl) (by kernel_rfl) (fun _ _ _ h => h) (Or.inl ⟨by rfl, ?_⟩) hH_ ?_; rotate_left; (focus (intro w_ hSw_; go_simp; try (with_reducible rfl))); simp only [List.getElem_toArray, List.getElem_cons_succ, List.getElem_cons_zero, Act.put, List.setIfInBounds_toArray, List.set_cons_zero, List.set_cons_succ])
  (refine wpAnyH_take (i := 2) rfl (by kernel_rfl) (by kernel_rfl) (by kernel_rfl) (fun _ _ _ h => h) (yieldsIf_load_mid (by rfl) 34 (.tmp 11) rfl (wb.heap.size) (0) rfl (((d.read f1).1.map (Value.int .u8))) _ (fun W h => h.1) Try.underlying34 rfl (hi1)) hH_ ?_; simp only [List.getElem_toArray, List.getElem_cons_succ, List.getElem_cons_zero, Act.put, List.setIfInBounds_toArray, List.set_cons_zero, List.set_cons_succ])
  (refine wpAnyH_take (i := 3) rfl (by kernel_rfl) (by kernel_rfl) (by kernel_rfl) (fun _ _ _ h => h) (yieldsIf_load_mid (by rfl) 34 (.tmp 13) rfl (wd.heap.size) (0) rfl (((x.readL f1).1.map (Value.int .u8))) _ (fun W h => h.2) Try.underlying34 rfl (hi2)) hH_ ?_; simp only [List.getElem_toArray, List.getElem_cons_succ, List.getElem_cons_zero, Act.put, List.setIfInBounds_toArray, List.set_cons_zero, List.set_cons_succ])
  (refine wpAnyH_take (i := 4) (v := ?_) rfl (by kernel_rfl) (by kernel_rfl) (by kernel_rfl) (fun _ _ _ h => h) (Or.inl ⟨by rfl, ?_⟩) hH_ ?_; rotate_left; (focus (intro w_ hSw_; go_simp; try (with_reducible rfl))); simp only [List.getElem_toArray, List.getElem_cons_succ, List.getElem_cons_zero, Act.put, List.setIfInBounds_toArray, List.set_cons_zero, List.set_cons_succ])
  (refine wpAnyH_take (i := 5) (v := ?_) rfl (by kernel_rfl) (by kernel_rfl) (by kernel_rfl) (fun _ _ _ h => h) (Or.inl ⟨by rfl, ?_⟩) hH_ ?_; rotate_left; (focus (intro w_ hSw_; go_simp; try (with_reducible rfl))); simp only [List.getElem_toArray, List.getElem_cons_succ, List.getElem_cons_zero, Act.put, List.setIfInBounds_toArray, List.set_cons_zero, List.set_cons_succ])
  (refine wpAnyH_take (i := 6) (v := ?_) rfl (by kernel_rfl) (by kernel_rfl) (by kernel_rfl) (fun _ _ _ h => h) (Or.inl ⟨by rfl, ?_⟩) hH_ ?_; rotate_left; (focus (intro w_ hSw_; go_simp; try (with_reducible rfl))); simp only [List.getElem_toArray, List.getElem_cons_succ, List.getElem_cons_zero, Act.put, List.setIfInBounds_toArray, List.set_cons_zero, List.set_cons_succ])
  (refine wpAnyH_take (i := 7) (v := ?_) rfl (by kernel_rfl) (by kernel_rfl) (by kernel_rfl) (fun _ _ _ h => h) (Or.inl ⟨by rfl, ?_⟩) hH_ ?_; rotate_left; (focus (intro w_ hSw_; go_simp; try (with_reducible rfl))); simp only [List.getElem_toArray, List.getElem_cons_succ, List.getElem_cons_zero, Act.put, List.setIfInBounds_toArray, List.set_cons_zero, List.set_cons_succ])
  refine wpAnyH_done (by kernel_rfl) ?_ _
  clear hH_ heq hi1 hi2 HL1 HL2
  have Hy := (Hx.drop (a := .blk wb.heap.size _) (by repeat (with_reducible (first | exact At.here | apply At.there)))).drop (a := .blk wd.heap.size _) (by repeat (with_reducible (first | exact At.here | apply At.there)))
  clear Hx
  generalize wf = Wn at *
  · obtain ⟨A3, hA⟩ : ∃ A3, A3 = A1 := ⟨_, rfl⟩
    subst hA
    obtain ⟨n3, hA⟩ : ∃ A3, A3 = n1 := ⟨_, rfl⟩
    subst hA
    obtain ⟨c3, hA⟩ : ∃ A3, A3 = c1 := ⟨_, rfl⟩
    subst hA
    obtain ⟨A4, hA⟩ : ∃ A3, A3 = A2 := ⟨_, rfl⟩
    subst hA
    obtain ⟨n4, hA⟩ : ∃ A3, A3 = n2 := ⟨_, rfl⟩
    subst hA
    obtain ⟨c4, hA⟩ : ∃ A3, A3 = c2 := ⟨_, rfl⟩
    subst hA
    obtain ⟨ex, hex⟩ : ∃ ex : List Asr, ex = [] := ⟨_, rfl⟩
    have hr : r = ex ++ r := by rw [hex]; rfl
    have HR3 : Aside0 (RfAt (ex ++ r) x A3 n3 c3 A4 n4 c4) := ⟨by rw [← hr]; exact HR.out⟩
    rw [show r = ex ++ r from hr] at Hy
    clear hr hex HR
    obtain ⟨bad, hbad⟩ : ∃ bad, bad = (x.readL f1).2 := ⟨_, rfl⟩
    rw [← hbad]
    have HB := Aside0.mk hbad
    clear hbad
    obtain ⟨E, hE⟩ : ∃ E, E = (d.read f1).2 := ⟨_, rfl⟩
    rw [← hE]
    have HY := Aside0.mk hE
    clear hE
    obtain ⟨y, hy⟩ : ∃ y, y = x := ⟨_, rfl⟩
    rw [← hy] at HR3 Hy HB
    subst hy
    (try (go_wp2_with fail))
    have Hz := (Hy.toS.drew).cx
    clear Hy
    refine wp_region_held_drew (S := fun W => W.heap[w.heap.size]? = some (.cells (rfC A3 n3 c3 A4 n4 c4 y.steps y.left y.armed y.gone) 50 (0, 0))) (by kernel_rfl) (Hz.blk (by repeat (with_reducible (first | exact At.here | apply At.there)))) (fun hH_ => ?_)
    generalize Wn.drew = Wz at *
    (refine wpAnyH_take (i := 0) rfl (by kernel_rfl) (by kernel_rfl) (by kernel_rfl) (fun _ _ _ h => h) (yieldsIf_load_mid (by rfl) 50 (.tmp 4) rfl (w.heap.size) (0) rfl ([.slice A3 n3 c3, .slice A4 n4 c4, .int .i64 y.steps, .int .i64 y.left, .bool y.armed, .bool y.gone]) _ (fun W h => rangeAt_blk h) Try.underlying50 rfl (rf_info)) hH_ ?_; simp only [List.getElem_toArray, List.getElem_cons_succ, List.getElem_cons_zero, Act.put, List.setIfInBounds_toArray, List.set_cons_zero, List.set_cons_succ])
    (refine wpAnyH_take (i := 1) (v := ?_) rfl (by kernel_rfl) (by kernel_rfl) (by kernel_rfl) (fun _ _ _ h => h) (Or.inl ⟨by rfl, ?_⟩) hH_ ?_; rotate_left; (focus (intro w_ hSw_; go_simp; try (with_reducible rfl))); simp only [List.getElem_toArray, List.getElem_cons_succ, List.getElem_cons_zero, Act.put, List.setIfInBounds_toArray, List.set_cons_zero, List.set_cons_succ])
    (refine wpAnyH_take (i := 3) (v := ?_) rfl (by kernel_rfl) (by kernel_rfl) (by kernel_rfl) (fun _ _ _ h => h) (Or.inl ⟨by rfl, ?_⟩) hH_ ?_; rotate_left; (focus (intro w_ hSw_; go_simp; try (with_reducible rfl))); simp only [List.getElem_toArray, List.getElem_cons_succ, List.getElem_cons_zero, Act.put, List.setIfInBounds_toArray, List.set_cons_zero, List.set_cons_succ])
    cases hq : (numI (E) == bad)
    · (refine wpAnyH_ready (rs := [2]) (by kernel_rfl) (by simp) ?_; refine AllReadyH.cons rfl (fun K hK => ?_) AllReadyH.nil; go_simp; go_at_call 38; refine (num_calls (E) _).mono ?_; rintro e w' ⟨rfl, ⟨nn_, rfl⟩⟩; have Hy := (Hz.toS.drewN nn_).cx; clear Hz; (try go_simp); refine hK.out _ _ (Hy.blk (by repeat (with_reducible (first | exact At.here | apply At.there)))) (fun hH2_ => ?_); clear hK K hH_; have hH_ := hH2_; clear hH2_; try simp only [List.getElem_toArray, List.getElem_cons_succ, List.getElem_cons_zero, Act.put, List.setIfInBounds_toArray, List.set_cons_zero, List.set_cons_succ])
      (refine wpAnyH_take (i := 4) (v := ?_) rfl (by kernel_rfl) (by kernel_rfl) (by kernel_rfl) (fun _ _ _ h => h) (Or.inl ⟨by rfl, ?_⟩) hH_ ?_; rotate_left; (focus (intro w_ hSw_; go_simp; try (with_reducible rfl))); simp only [List.getElem_toArray, List.getElem_cons_succ, List.getElem_cons_zero, Act.put, List.setIfInBounds_toArray, List.set_cons_zero, List.set_cons_succ])
      try rw [hq]
      (refine wpAnyH_take (i := 5) (v := ?_) rfl (by kernel_rfl) (by kernel_rfl) (by kernel_rfl) (fun _ _ _ h => h) (Or.inl ⟨by rfl, ?_⟩) hH_ ?_; rotate_left; (focus (intro w_ hSw_; go_simp; try (with_reducible rfl))); simp only [List.getElem_toArray, List.getElem_cons_succ, List.getElem_cons_zero, Act.put, List.setIfInBounds_toArray, List.set_cons_zero, List.set_cons_succ])
      (refine wpAnyH_take (i := 6) (v := undef) rfl (by kernel_rfl) (by kernel_rfl) (by kernel_rfl) (fun _ _ _ h => h) (Or.inr ⟨by rfl, rfl⟩) hH_ ?_; simp only [List.getElem_toArray, List.getElem_cons_succ, List.getElem_cons_zero, Act.put, List.setIfInBounds_toArray, List.set_cons_zero, List.set_cons_succ])
      (refine wpAnyH_take (i := 7) (v := ?_) rfl (by kernel_rfl) (by kernel_rfl) (by kernel_rfl) (fun _ _ _ h => h) (Or.inl ⟨by rfl, ?_⟩) hH_ ?_; rotate_left; (focus (intro w_ hSw_; go_simp; try (with_reducible rfl))); simp only [List.getElem_toArray, List.getElem_cons_succ, List.getElem_cons_zero, Act.put, List.setIfInBounds_toArray, List.set_cons_zero, List.set_cons_succ])
      (refine wpAnyH_ready (rs := [8]) (by kernel_rfl) (by simp) ?_; refine AllReadyH.cons rfl (fun K hK => ?_) AllReadyH.nil; have F := (Hy).facts; simp only [factsOf, Asr.facts, blkFacts, cellsAre, List.toList_toArray, forall_const, Nat.zero_add, Nat.reduceAdd, and_true, true_and] at F; go_simp; refine Cx.genP (C := K _) (by (repeat (with_reducible (first | exact (Hy).toS | exact At.here | apply At.there | apply CxS.drewN | apply CxS.drew | apply CxS.alloc | apply CxS.set | apply CxS.setRow)))) (fun Wn Hn => ?_); clear F Hy; have Hy := Hn; clear Hn; (try simp only [List.setIfInBounds_toArray, List.set_cons_zero, List.set_cons_succ] at Hy); refine hK.out _ _ (Hy.blk (by repeat (with_reducible (first | exact At.here | apply At.there)))) (fun hH2_ => ?_); clear hK K hH_; have hH_ := hH2_; clear hH2_; try simp only [List.getElem_toArray, List.getElem_cons_succ, List.getElem_cons_zero, Act.put, List.setIfInBounds_toArray, List.set_cons_zero, List.set_cons_succ])
      (refine wpAnyH_take (i := 9) (v := ?_) rfl (by kernel_rfl) (by kernel_rfl) (by kernel_rfl) (fun _ _ _ h => h) (Or.inl ⟨by rfl, ?_⟩) hH_ ?_; rotate_left; (focus (intro w_ hSw_; go_simp; try (with_reducible rfl))); simp only [List.getElem_toArray, List.getElem_cons_succ, List.getElem_cons_zero, Act.put, List.setIfInBounds_toArray, List.set_cons_zero, List.set_cons_succ])
      refine wpAnyH_done (by kernel_rfl) ?_ _
      clear hH_; have F := (Hy).facts; simp only [factsOf, Asr.facts, blkFacts, cellsAre, List.toList_toArray, forall_const, Nat.zero_add, Nat.reduceAdd, and_true, true_and] at F; go_wp2; ((try simp only [Exit.inBlock, Exit.then]); (apply Cx.atPost); (focus ((repeat (with_reducible (first | exact (Hy).toS | exact At.here | apply At.there | apply CxS.drewN | apply CxS.drew | apply CxS.alloc | apply CxS.set | apply CxS.setRow))))); intro HT); (try simp only [List.setIfInBounds_toArray, List.set_cons_zero, List.set_cons_succ] at HT); (try rw [← HY.out]); (try rw [← HB.out]); (try rw [← HSB.out]); rw [hq]; exact bodyPost_ret (results_ct rfl _ _ (w.heap.size + 1 + 1) _ (rfC A3 n3 c3 A4 n4 c4 y.steps y.left y.armed y.gone) (0, 0) _ rfl (HT.blk (b := w.heap.size + 1 + 1) (by repeat (with_reducible (first | exact At.here | apply At.there)))) Try.underlying50 rfl rf_info) rfl ⟨A3, n3, c3, A4, n4, c4, ex, by first | rfl | trivial, (((HT.drop (a := .blk w.heap.size _) (by repeat (with_reducible (first | exact At.here | apply At.there)))).drop (a := .blk (w.heap.size + 1) _) (by repeat (with_reducible (first | exact At.here | apply At.there)))).drop (a := .blk (w.heap.size + 1 + 1) _) (by repeat (with_reducible (first | exact At.here | apply At.there)))).find (a := .own dkR v _) (by repeat (with_reducible (first | exact At.here | apply At.there))), HR3.out⟩
    · (refine wpAnyH_ready (rs := [2]) (by kernel_rfl) (by simp) ?_; refine AllReadyH.cons rfl (fun K hK => ?_) AllReadyH.nil; go_simp; go_at_call 38; refine (num_calls (E) _).mono ?_; rintro e w' ⟨rfl, ⟨nn_, rfl⟩⟩; have Hy := (Hz.toS.drewN nn_).cx; clear Hz; (try go_simp); refine hK.out _ _ (Hy.blk (by repeat (with_reducible (first | exact At.here | apply At.there)))) (fun hH2_ => ?_); clear hK K hH_; have hH_ := hH2_; clear hH2_; try simp only [List.getElem_toArray, List.getElem_cons_succ, List.getElem_cons_zero, Act.put, List.setIfInBounds_toArray, List.set_cons_zero, List.set_cons_succ])
      (refine wpAnyH_take (i := 4) (v := ?_) rfl (by kernel_rfl) (by kernel_rfl) (by kernel_rfl) (fun _ _ _ h => h) (Or.inl ⟨by rfl, ?_⟩) hH_ ?_; rotate_left; (focus (intro w_ hSw_; go_simp; try (with_reducible rfl))); simp only [List.getElem_toArray, List.getElem_cons_succ, List.getElem_cons_zero, Act.put, List.setIfInBounds_toArray, List.set_cons_zero, List.set_cons_succ])
      try rw [hq]
      (refine wpAnyH_take (i := 5) (v := ?_) rfl (by kernel_rfl) (by kernel_rfl) (by kernel_rfl) (fun _ _ _ h => h) (Or.inl ⟨by rfl, ?_⟩) hH_ ?_; rotate_left; (focus (intro w_ hSw_; go_simp; try (with_reducible rfl))); simp only [List.getElem_toArray, List.getElem_cons_succ, List.getElem_cons_zero, Act.put, List.setIfInBounds_toArray, List.set_cons_zero, List.set_cons_succ])
      (refine wpAnyH_take (i := 6) (v := ?_) rfl (by kernel_rfl) (by kernel_rfl) (by kernel_rfl) (fun _ _ _ h => h) (Or.inl ⟨by rfl, ?_⟩) hH_ ?_; rotate_left; (focus (intro w_ hSw_; go_simp; try (with_reducible rfl))); simp only [List.getElem_toArray, List.getElem_cons_succ, List.getElem_cons_zero, Act.put, List.setIfInBounds_toArray, List.set_cons_zero, List.set_cons_succ])
      (refine wpAnyH_take (i := 7) (v := ?_) rfl (by kernel_rfl) (by kernel_rfl) (by kernel_rfl) (fun _ _ _ h => h) (Or.inl ⟨by rfl, ?_⟩) hH_ ?_; rotate_left; (focus (intro w_ hSw_; go_simp; try (with_reducible rfl))); simp only [List.getElem_toArray, List.getElem_cons_succ, List.getElem_cons_zero, Act.put, List.setIfInBounds_toArray, List.set_cons_zero, List.set_cons_succ])
      (refine wpAnyH_ready (rs := [8]) (by kernel_rfl) (by simp) ?_; refine AllReadyH.cons rfl (fun K hK => ?_) AllReadyH.nil; have F := (Hy).facts; simp only [factsOf, Asr.facts, blkFacts, cellsAre, List.toList_toArray, forall_const, Nat.zero_add, Nat.reduceAdd, and_true, true_and] at F; go_simp; refine Cx.genP (C := K _) (by (repeat (with_reducible (first | exact (Hy).toS | exact At.here | apply At.there | apply CxS.drewN | apply CxS.drew | apply CxS.alloc | apply CxS.set | apply CxS.setRow)))) (fun Wn Hn => ?_); clear F Hy; have Hy := Hn; clear Hn; (try simp only [List.setIfInBounds_toArray, List.set_cons_zero, List.set_cons_succ] at Hy); refine hK.out _ _ (Hy.blk (by repeat (with_reducible (first | exact At.here | apply At.there)))) (fun hH2_ => ?_); clear hK K hH_; have hH_ := hH2_; clear hH2_; try simp only [List.getElem_toArray, List.getElem_cons_succ, List.getElem_cons_zero, Act.put, List.setIfInBounds_toArray, List.set_cons_zero, List.set_cons_succ])
      (refine wpAnyH_take (i := 9) (v := ?_) rfl (by kernel_rfl) (by kernel_rfl) (by kernel_rfl) (fun _ _ _ h => h) (Or.inl ⟨by rfl, ?_⟩) hH_ ?_; rotate_left; (focus (intro w_ hSw_; go_simp; try (with_reducible rfl))); simp only [List.getElem_toArray, List.getElem_cons_succ, List.getElem_cons_zero, Act.put, List.setIfInBounds_toArray, List.set_cons_zero, List.set_cons_succ])
      refine wpAnyH_done (by kernel_rfl) ?_ _
      clear hH_; have F := (Hy).facts; simp only [factsOf, Asr.facts, blkFacts, cellsAre, List.toList_toArray, forall_const, Nat.zero_add, Nat.reduceAdd, and_true, true_and] at F; go_wp2; ((try simp only [Exit.inBlock, Exit.then]); (apply Cx.atPost); (focus ((repeat (with_reducible (first | exact (Hy).toS | exact At.here | apply At.there | apply CxS.drewN | apply CxS.drew | apply CxS.alloc | apply CxS.set | apply CxS.setRow))))); intro HT); (try simp only [List.setIfInBounds_toArray, List.set_cons_zero, List.set_cons_succ] at HT); (try rw [← HY.out]); (try rw [← HB.out]); (try rw [← HSB.out]); rw [hq]; exact bodyPost_ret (results_ct rfl _ _ (w.heap.size + 1 + 1) _ (rfC A3 n3 c3 A4 n4 c4 y.steps y.left y.armed y.gone) (0, 0) _ rfl (HT.blk (b := w.heap.size + 1 + 1) (by repeat (with_reducible (first | exact At.here | apply At.there)))) Try.underlying50 rfl rf_info) rfl ⟨A3, n3, c3, A4, n4, c4, ex, by first | rfl | trivial, (((HT.drop (a := .blk w.heap.size _) (by repeat (with_reducible (first | exact At.here | apply At.there)))).drop (a := .blk (w.heap.size + 1) _) (by repeat (with_reducible (first | exact At.here | apply At.there)))).drop (a := .blk (w.heap.size + 1 + 1) _) (by repeat (with_reducible (first | exact At.here | apply At.there)))).find (a := .own dkR v _) (by repeat (with_reducible (first | exact At.here | apply At.there))), HR3.out⟩
include hf1 hkeep H k h hg hl in
theorem do_calls : Calls Try.prog 22 #[v, .agg (rfC A1 n1 c1 A2 n2 c2 x.steps x.left x.armed x.gone), .agg #[.int .i64 o.f0, .int .i64 o.f1, .int .u8 o.f2, .slice A o.f3.length c]] w fun e w1 => ∃ (A1 : Option Addr) (n1 c1 : Nat) (A2 : Option Addr) (n2 c2 : Nat) (ex : List Asr), e = .returned (.tuple #[.agg (rfC A1 n1 c1 A2 n2 c2 (actX x o).steps (actX x o).left (actX x o).armed (actX x o).gone), .bool (actB d x o)]) ∧ Cx w0.heap.size w0 w1 (.own dkR v (actD d o) :: (ex ++ r)) ∧ RfAt (ex ++ r) (actX x o) A1 n1 c1 A2 n2 c2 := by
  by_cases h1 : o.f0 = 1
  · rw [show actD d o = _ from if_pos h1, show actX x o = _ from if_pos h1, show actB d x o = _ from if_pos h1]
    exact laminalaw02_do.write o A c hf1 H k h hg hl h1
  · by_cases h2 : o.f0 = 2
    · rw [show actD d o = d.flush by simp [actD, h2], show actX x o = x.flush.1 by simp [actX, h2], show actB d x o = (numI d.offE == x.flush.2) by simp [actB, h2]]
      exact laminalaw02_do.flush o A c hf1 H k h hg hl h2
    · by_cases h4 : o.f0 = 4
      · rw [show actD d o = d.arm o.f1 by simp [actD, h4], show actX x o = (x.arm o.f1).1 by simp [actX, h4], show actB d x o = (numI (if o.f1 < 0 then some 1 else none) == (x.arm o.f1).2) by simp [actB, h4]]
        exact do_arm o A c hf1 H k h hg hl h4
      · by_cases h5 : o.f0 = 5
        · rw [show actD d o = d.crash o.f3 by simp [actD, h5], show actX x o = x.crash o.f3 by simp [actX, h5], show actB d x o = (numI none == 0) by simp [actB, h5]]
          exact laminalaw02_do.crash o A c hf1 hkeep H k h hg hl h5
        · rw [show actD d o = d by simp [actD, h1, h2, h4, h5], show actX x o = x by simp [actX, h1, h2, h4, h5], show actB d x o = (numI (d.read o.f1).2 == (x.readL o.f1).2 && decide ((d.read o.f1).1 = (x.readL o.f1).1)) by simp [actB, h1, h2, h4, h5]]
          exact do_read o A c hf1 H k h hg hl h1 h2 h4 h5
end

end Go.Proofs.Ytjoledofiindcaa.Hp
