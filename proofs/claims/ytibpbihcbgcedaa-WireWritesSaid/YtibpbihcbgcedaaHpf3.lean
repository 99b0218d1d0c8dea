/- Contracts of functions of the given program, and what they lean on: written by this session's own program hprint.py, which lays hand texts into the kit's printer. -/
import Derived.Deep.DeepMust
import Derived.Test.YtibpbihcbgcedaaHp0
import Derived.Test.YtibpbihcbgcedaaHpaC
import Derived.Test.YtibpbihcbgcedaaHpaM
import Derived.Test.YtibpbihcbgcedaaHpf35
import Derived.Test.YtibpbihcbgcedaaHpf15
import Derived.Test.YtibpbihcbgcedaaHpf17
import Derived.Test.YtibpbihcbgcedaaHpf8
import Derived.Test.YtibpbihcbgcedaaHpf9
import Derived.Test.YtibpbihcbgcedaaHpf10
import Derived.Test.YtibpbihcbgcedaaHpf11
import Derived.Test.YtibpbihcbgcedaaHpf12
import Derived.Test.YtibpbihcbgcedaaHpf13
import Derived.Test.YtibpbihcbgcedaaHpf14
import Derived.Test.YtibpbihcbgcedaaHpf16
namespace Go.Proofs.Ytibpbihcbgcedaa.Hp
open Go.RowKit Go.Proofs.YtibpbihcbgcedaaW.PrintWords Go.Proofs.YtibpbihcbgcedaaW.PrintLast Go.Proofs.YtibpbihcbgcedaaW.PrintMore
attribute [local go_sem] max2_int min2_int max_two min_two max_three min_three max_four min_four   -- for this text's walks alone
set_option linter.unusedVariables false
set_option linter.unusedSimpArgs false

/-! ### laminalaw03_WireWrites: function 3 -/
def allL : List S31 → List Int
  | [] => []
  | x :: t => valL x.f0 x.f1 x.f2 x.f3 ++ allL t
theorem R_emptyI (W : World) (base n : Nat) (h : base ≤ W.heap.size) (hn : n = W.heap.size) : Kd.R (Kd.int .i64) 3 (W.alloc (.cells #[] 3)) base (fun _ => True) (.slice (some ⟨n, 0, none⟩) 0 0) [] := by
  subst hn
  exact Kd.R_of_own (enc := Value.int .i64) (h1 := fun _ => rfl) (World.ownsRow_made W _ 0 h (by unfold maxLen; omega) (by simp)) (fun _ _ => trivial)
/-- What is known of the values that come in. -/
def ValsOk (l0 : List S31) : Prop := ∀ x ∈ l0, (Lit.int .i64 x.f0).wf = true ∧ (Lit.int .i64 x.f1).wf = true ∧ (x.f2.length * 1 ≤ 140737488351232 ∧ ∀ n ∈ x.f2, (Lit.int .u8 n).wf = true) ∧ (x.f3.length * 8 ≤ 140737488351232 ∧ ∀ n ∈ x.f3, (Lit.int .i64 n).wf = true)
theorem allL_snoc (l : List S31) (k : Nat) (h : k < l.length) : allL (l.take (k + 1)) = allL (l.take k) ++ valL (rd_T31 l k).f0 (rd_T31 l k).f1 (rd_T31 l k).f2 (rd_T31 l k).f3 := by
  induction l generalizing k with
  | nil => simp at h
  | cons x t ih =>
    rcases k with _ | k
    · simp [allL, rd_T31]
    · have e : rd_T31 (x :: t) ((k + 1 : Nat) : Int) = rd_T31 t (k : Nat) := by simp [rd_T31]
      rw [List.take_succ_cons, List.take_succ_cons, allL, allL, ih k (by simpa using h), e, List.append_assoc]
theorem allL_len (l : List S31) (h : ∀ j : Nat, j < l.length → (rd_T31 l j).f2.length ≤ 300 ∧ (rd_T31 l j).f3.length ≤ 50) (k : Nat) (hk : k ≤ l.length) : (allL (l.take k)).length ≤ 9000 * k := by
  induction k with
  | zero => simp [allL]
  | succ k ih =>
    rw [allL_snoc l k (by omega), List.length_append]
    have := ih (by omega)
    have h2 := h k (by omega)
    have := valL_len (rd_T31 l k).f0 (rd_T31 l k).f1 (rd_T31 l k).f2 (rd_T31 l k).f3 (by omega) (by omega)
    omega
theorem vals_ok {l : List S31} (h : ValsOk l) (k : Nat) (hk : k < l.length) : (-9223372036854775808 ≤ (rd_T31 l k).f1 ∧ (rd_T31 l k).f1 ≤ 9223372036854775807) ∧ (∀ x ∈ (rd_T31 l k).f2, 0 ≤ x ∧ x < 256) ∧ (∀ x ∈ (rd_T31 l k).f3, -9223372036854775808 ≤ x ∧ x ≤ 9223372036854775807) := by
  have e : rd_T31 l (k : Int) = l[k] := by simp [rd_T31, hk]
  rw [e]
  obtain ⟨_, h1, h2, h3⟩ := h _ (List.getElem_mem hk)
  exact ⟨wf_i64 h1, fun x hx => wf_u8 (h2.2 x hx), fun x hx => wf_i64 (h3.2 x hx)⟩
theorem laminalaw03_WireWrites.law (A0 : Option Addr) (c0 : Nat) (l0 : List S31) (w : World) (hr0 : Kd.C k31 w A0 l0.length l0) (hc0 : l0.length ≤ c0) (hy0 : l0.length * 64 ≤ 140737488351232) (hg : ValsOk l0) :
    Calls Try.prog 3 #[.slice A0 l0.length c0] w fun e w' => e = .returned (.bool true) ∧ Below w.heap.size w w' := by
  have HR0 := Aside0.mk hr0
  have HG := Aside0.mk hg
  have HAL := fun W => laminalaw03_alive.calls W
  obtain ⟨r, hlf, hlp⟩ := large_f l0 (by omega)
  have HLF := Aside0.mk hlf
  have HLP := Aside0.mk hlp
  clear hr0 hg hlf hlp
  have hm : l0.length ≤ 9223372036854775807 := by omega
  rcases r with _ | _
  rotate_left
  · skip
    go_enter Try.func3, Try.ntmps3
    go_wp2_with fail
    refine (HAL _).mono ?_
    rintro e w1 ⟨rfl, hb⟩
    have HB1 := Aside0.mk hb
    clear hb
    go_wp2_with fail
    refine (laminalaw03_large.calls _ A0 c0 l0 true _ (Kd.C_below HR0.out HB1.out) hc0 HLF.out).mono ?_
    rintro e w2 ⟨rfl, hb⟩
    go_wp2
    go_ret
    exact ⟨rfl, below_step HB1.out hb⟩
  obtain ⟨hlen, hbd0⟩ := HLP.out rfl
  have HBD := Aside0.mk hbd0
  have HLL := Aside0.mk (allL_len l0 hbd0)
  clear HLP hbd0
  go_enter Try.func3, Try.ntmps3
  go_wp2_with fail
  refine (HAL _).mono ?_
  rintro e w1 ⟨rfl, hb⟩
  have HB1 := Aside0.mk hb
  clear hb
  go_wp2_with fail
  refine (laminalaw03_large.calls _ A0 c0 l0 false _ (Kd.C_below HR0.out HB1.out) hc0 HLF.out).mono ?_
  rintro e w2 ⟨rfl, hb⟩
  have HB2 := Aside0.mk (below_step HB1.out hb)
  clear hb HB1 HLF
  go_wp2
  go_loopw [6, 7, 8, 4, 18] (fun _ _ _ v4 v18 wr => ∃ (k : Nat) (S : Nat → Prop), k ≤ l0.length ∧ v18 = .int .i64 k ∧ Aside0 (Wr wr S false (.pointer (some ⟨w2.heap.size, 0, none⟩)) (allL (l0.take k))) ∧ Aside0 (∀ i, S i → w.heap.size ≤ i ∧ i < wr.heap.size) ∧ Aside0 (Kd.R (Kd.int .u8) 5 wr w.heap.size (fun i => ¬ S i) v4 (allL (l0.take k))) ∧ Aside0 (Below w.heap.size w wr)) (fun _ _ _ _ v18 _ => l0.length - (intOf v18).toNat)
  case atStart =>
    have hs2 := HB2.out.size
    refine ⟨0, fun i => i = w2.heap.size, by omega, rfl, ⟨(wr_new w2).below (below_alloc (Below.refl _ _) _)⟩, ⟨fun i hi => by subst hi; exact ⟨hs2, by simp; omega⟩⟩, ⟨?_⟩, ⟨(HB2.out.alloc hs2 _).alloc (by simp; omega) _⟩⟩
    have hr := Kd.R_lower (R_empty (w2.alloc (.cells #[.slice none 0 0] 28)) (w2.heap.size + 1) (by simp)) (show w.heap.size ≤ w2.heap.size + 1 by omega)
    simp only [World.size_alloc] at hr
    exact Kd.R_mono (Kd.R_tight (by rfl) hr) (fun i hi => by simp [Value.ownBlock] at hi; omega)
  case round =>
    obtain ⟨k, S, hk, rfl, HW, HS, HO, HB⟩ := hrel
    obtain ⟨Aw, cw, hvw, -⟩ := Kd.R_reads HO.out
    have hswr := HB.out.size
    generalize hLW : allL (l0.take k) = LW at *
    have hlw : LW.length ≤ 9000 * k := by rw [← hLW]; exact HLL.out k (by omega)
    by_cases hlt : k < l0.length
    · obtain ⟨ad, A2, c2, A3, c3, e, x0, x1, x2, x3, l2, g2, l3, g3⟩ := at_T31 HR0.out (k : Int) (by omega) (by omega)
      subst e
      have HLN := Aside0.mk (allL_snoc l0 k hlt)
      rw [hLW] at HLN
      obtain ⟨hxB, hxN⟩ := HBD.out k hlt
      obtain ⟨⟨hf1, hf2⟩, hBb, hNb⟩ := vals_ok HG.out k hlt
      have HBb := Aside0.mk hBb
      have HNb := Aside0.mk hNb
      simp only [Int.toNat_natCast] at x0 x1 x2 x3
      replace x0 := (HB.out.cell (World.block_lt_of_cell? w _ x0)).trans x0
      replace x1 := (HB.out.cell (World.block_lt_of_cell? w _ x1)).trans x1
      replace x2 := (HB.out.cell (World.block_lt_of_cell? w _ x2)).trans x2
      replace x3 := (HB.out.cell (World.block_lt_of_cell? w _ x3)).trans x3
      generalize rd_T31 l0 (k : Int) = X at *
      have G2 := Aside0.mk (Rk.of_C g2)
      have G3 := Aside0.mk (Rk.of_C g3)
      clear g2 g3 hBb hNb
      subst hvw
      go_wp2_with fail
      have hb1 : Below wr.heap.size wr ((wr.alloc (.cells #[.int .i64 X.f0, .int .i64 X.f1, .slice A2 X.f2.length c2, .slice A3 X.f3.length c3] 31)).alloc (.cells #[.int .i64 X.f0, .int .i64 X.f1, .slice A2 X.f2.length c2, .slice A3 X.f3.length c3] 31)) := below_alloc (below_alloc (Below.refl _ _) _) _
      have hb6 := (Below.heap_alloc (wr.alloc (.cells #[.int .i64 X.f0, .int .i64 X.f1, .slice A2 X.f2.length c2, .slice A3 X.f3.length c3] 31)) (.cells #[.int .i64 X.f0, .int .i64 X.f1, .slice A2 X.f2.length c2, .slice A3 X.f3.length c3] 31) wr.heap.size (by simp)).trans (heap_alloc_new wr _)
      have hb7 := heap_alloc_new (wr.alloc (.cells #[.int .i64 X.f0, .int .i64 X.f1, .slice A2 X.f2.length c2, .slice A3 X.f3.length c3] 31)) (.cells #[.int .i64 X.f0, .int .i64 X.f1, .slice A2 X.f2.length c2, .slice A3 X.f3.length c3] 31)
      have hs1 : ((wr.alloc (.cells #[.int .i64 X.f0, .int .i64 X.f1, .slice A2 X.f2.length c2, .slice A3 X.f3.length c3] 31)).alloc (.cells #[.int .i64 X.f0, .int .i64 X.f1, .slice A2 X.f2.length c2, .slice A3 X.f3.length c3] 31)).heap.size = wr.heap.size + 2 := by simp
      rw [World.size_alloc] at hb7
      generalize (wr.alloc (.cells #[.int .i64 X.f0, .int .i64 X.f1, .slice A2 X.f2.length c2, .slice A3 X.f3.length c3] 31)).alloc (.cells #[.int .i64 X.f0, .int .i64 X.f1, .slice A2 X.f2.length c2, .slice A3 X.f3.length c3] 31) = W1 at *
      have hB1 := HB.out.trans (hb1.mono HB.out.size)
      refine (laminanum_Copy.calls A2 c2 X.f2 _ (G2.out.old hB1).row (by omega)).mono ?_
      rintro e w3 ⟨g, cap, rfl, hg, hR3, hb3⟩
      have b6 := (hb3.block wr.heap.size (by omega)).trans hb6
      have b7 := (hb3.block (wr.heap.size + 1) (by omega)).trans hb7
      have hs3 := hb3.size
      have c72 : w3.cell? ⟨wr.heap.size + 1, 2, none⟩ = some (.slice A2 X.f2.length c2) := by rw [cell_of b7]; rfl
      have f72 := frozen_of b7 2
      have hglt := Kd.R_lt hR3 g rfl
      obtain ⟨W3, hW3⟩ : ∃ W, W = w3.setCell ⟨wr.heap.size + 1, 2, none⟩ (.slice (some ⟨g, 0, none⟩) X.f2.length cap) := ⟨_, rfl⟩
      have o3 : Only w3 W3 (fun i => i = wr.heap.size + 1) := by subst hW3; exact (Only.refl w3 (fun i => i = wr.heap.size + 1)).setCell (p := ⟨wr.heap.size + 1, 2, none⟩) (.inl rfl) _
      have b73 : W3.heap[wr.heap.size + 1]? = some (.cells #[.int .i64 X.f0, .int .i64 X.f1, .slice (some ⟨g, 0, none⟩) X.f2.length cap, .slice A3 X.f3.length c3] 31 (0, 0)) := by subst hW3; exact setCell_here b7 2 _
      have b63 := o3.same_block b6 (by omega)
      have hz3 : W3.heap.size = w3.heap.size := by subst hW3; simp [World.setCell]
      have hBr3 : Below wr.heap.size wr W3 := (hb1.trans (hb3.mono (by omega))).trans (o3.below (fun i hi => by omega) (by omega))
      have hR33 : Kd.R (Kd.int .u8) 5 W3 W1.heap.size (fun _ => True) (.slice (some ⟨g, 0, none⟩) (X.f2 ++ [165, 90]).length cap) (X.f2 ++ [165, 90]) := by subst hW3; exact Kd.R_set hR3 b7 (by decide) 2 _
      have h63 : ((w3.setCell ⟨wr.heap.size + 1, 2, none⟩ (.slice (some ⟨g, 0, none⟩) X.f2.length cap)).alloc (.cells #[] 3)).cell? ⟨wr.heap.size, 3, none⟩ = some (.slice A3 X.f3.length c3) := by rw [← hW3, cell_same (Below.heap_alloc W3 _ wr.heap.size (by omega)) ⟨wr.heap.size, 3, none⟩ rfl, cell_of b63]; rfl
      have HW3 := Aside0.mk hW3
      have HR33 := Aside0.mk hR33
      have HB73 := Aside0.mk b73
      have HB63 := Aside0.mk b63
      have HBR3 := Aside0.mk hBr3
      have HBB3 := Aside0.mk (HB.out.trans (hBr3.mono HB.out.size))
      have HSS := Aside0.mk (show W1.heap.size = wr.heap.size + 2 ∧ W1.heap.size ≤ w3.heap.size ∧ W3.heap.size = w3.heap.size ∧ W1.heap.size ≤ g ∧ g < w3.heap.size from ⟨hs1, hs3, hz3, hg, hglt⟩)
      clear hW3 hR33 b73 b63 hBr3 hb1 hb6 hb7 hs1 hB1 hb3 b6 b7 hs3 hR3 hg o3 hz3 hglt x0 x1 x2 x3 hLW
      go_wp2_with (((with_reducible refine gate_builtin (b := .append) (xs := #[.tmp 27, .tmp 29]) rfl ?_); at_builtin; go_must (rw [← HW3.out]; refine Kd.R_append_rows (Kd.int .i64) (w0 := W3) W3.heap.size rfl (.tmp 27) (.tmp 29) 29 3 (.int .i64 0) 8 rfl Try.underlying29 info3 rfl (by decide) (by omega) _ [] X.f3 _ _ _ (fun _ => True) (fun _ => False) rfl rfl ?aO ?aR (fun _ _ h => h) (fun _ h => h.elim) (fun _ _ => trivial) ?aB ?aS ?aL ?_; (case aO => exact R_emptyI W3 W3.heap.size w3.heap.size (Nat.le_refl _) HSS.out.2.2.1.symm); (case aR => exact Kd.C_alloc (G3.out.old HBB3.out).row _); (case aB => exact below_alloc (Below.refl _ _) _); (case aS => simp); (case aL => (simp; omega)); intro v4 w4 ho4 hb4 hg4 hat4; clear hg4 hat4; obtain ⟨A4, c4, hv4, -⟩ := Kd.R_reads ho4; rw [List.nil_append] at hv4 ho4; subst hv4; have HO4 := Aside0.mk ho4; have HB4 := Aside0.mk hb4; have b74 := (hb4.block (wr.heap.size + 1) (by have := HSS.out; omega)).trans HB73.out; have c743 : w4.cell? ⟨wr.heap.size + 1, 3, none⟩ = some (.slice A3 X.f3.length c3) := (by rw [cell_of b74]; rfl); have f743 := frozen_of b74 3; have b75 := setCell_here b74 3 (.slice A4 X.f3.length c4); have d0 : (w4.setCell ⟨wr.heap.size + 1, 3, none⟩ (.slice A4 X.f3.length c4)).cell? ⟨wr.heap.size + 1, 0, none⟩ = some (.int .i64 X.f0) := (by rw [cell_of b75]; rfl); have d1 : (w4.setCell ⟨wr.heap.size + 1, 3, none⟩ (.slice A4 X.f3.length c4)).cell? ⟨wr.heap.size + 1, 1, none⟩ = some (.int .i64 X.f1) := (by rw [cell_of b75]; rfl); have d2 : (w4.setCell ⟨wr.heap.size + 1, 3, none⟩ (.slice A4 X.f3.length c4)).cell? ⟨wr.heap.size + 1, 2, none⟩ = some (.slice (some ⟨g, 0, none⟩) X.f2.length cap) := (by rw [cell_of b75]; rfl); have d3 : (w4.setCell ⟨wr.heap.size + 1, 3, none⟩ (.slice A4 X.f3.length c4)).cell? ⟨wr.heap.size + 1, 3, none⟩ = some (.slice A4 X.f3.length c4) := (by rw [cell_of b75]; rfl); have HB74 := Aside0.mk b74; clear ho4 hb4 b74 b75)))
      obtain ⟨q1, q2, q3, q4, q5⟩ := HSS.out
      have qs4 := HB4.out.size
      have hBr4 : Below wr.heap.size wr (w4.setCell ⟨wr.heap.size + 1, 3, none⟩ (.slice A4 X.f3.length c4)) := (HBR3.out.trans (HB4.out.mono (by omega))).setCell (p := ⟨wr.heap.size + 1, 3, none⟩) (by simp) _
      have b75 := setCell_here HB74.out 3 (.slice A4 X.f3.length c4)
      have b65 := (Below.heap_setCell w4 ⟨wr.heap.size + 1, 3, none⟩ (.slice A4 X.f3.length c4) wr.heap.size (by simp)).trans ((HB4.out.block wr.heap.size (by omega)).trans HB63.out)
      have hRg := Kd.R_set (Kd.R_below HR33.out HB4.out) HB74.out (by decide) 3 (.slice A4 X.f3.length c4)
      have hRi := Kd.R_set HO4.out HB74.out (by decide) 3 (.slice A4 X.f3.length c4)
      have qs5 : (w4.setCell ⟨wr.heap.size + 1, 3, none⟩ (.slice A4 X.f3.length c4)).heap.size = w4.heap.size := by simp [World.setCell]
      clear HW3 HR33 HB73 HB63 HBR3 HBB3 HO4 HB4 HB74 h63 d0 d1 d2 d3 c743 f743 c72 f72
      generalize w4.setCell ⟨wr.heap.size + 1, 3, none⟩ (.slice A4 X.f3.length c4) = W4 at *
      obtain ⟨hCg, hcap⟩ := Kp_C hRg
      have hWr4 := HW.out.below hBr4
      have hS4 : ∀ i, S i → i < W4.heap.size := fun i hi => by have := (HS.out i hi).2; omega
      have hd4 : ∀ i, wr.heap.size ≤ i → ¬ S i := fun i hi h => by have := (HS.out i h).2; omega
      have hRbB : Rb W4 (fun i => wr.heap.size ≤ i) (some ⟨g, 0, none⟩) X.f2 := ⟨hCg, fun _ a ha => by cases ha; show wr.heap.size ≤ g; omega⟩
      have hRkN : Rk .i64 W4 (fun i => wr.heap.size ≤ i) A4 X.f3 := ⟨(Kd.R_reads' hRi).2.2, fun _ a ha => by subst ha; have := Kd.R_base hRi a.block rfl; show wr.heap.size ≤ a.block; omega⟩
      have hc4 := (Kd.R_reads' hRi).2.1
      have hown : ∀ i, (Value.slice Aw LW.length cw).ownBlock = some i → i < wr.heap.size ∧ ¬ S i ∧ w.heap.size ≤ i := fun i hi => ⟨Kd.R_lt HO.out i hi, HO.out.1 i hi, Kd.R_base HO.out i hi⟩
      have hHO5 : Kd.R (Kd.int .u8) 5 W4 w.heap.size (fun i => (¬ S i ∧ i < wr.heap.size) ∨ False) (.slice Aw LW.length cw) LW := Kd.R_below (Kd.R_mono (Kd.R_bound HO.out) (fun i hi => .inl ⟨hi.1, hi.2.2.1⟩)) hBr4
      have HBB4 := Aside0.mk (HB.out.trans (hBr4.mono HB.out.size))
      have HRG := Aside0.mk (Kd.R_mono (Kd.R_bound hRg) (fun i hi => (hi.2.1 : W1.heap.size ≤ i)))
      have HRI := Aside0.mk (Kd.R_mono (Kd.R_bound hRi) (fun i hi => (hi.2.1 : W3.heap.size ≤ i)))
      have HHO5 := Aside0.mk hHO5
      have HOWN := Aside0.mk hown
      have HB75 := Aside0.mk b75
      have HB65 := Aside0.mk b65
      have HD4 := Aside0.mk hd4
      have HWC := Aside0.mk (laminalaw03_write.calls S false _ LW X.f0 X.f1 (fun i => wr.heap.size ≤ i) (some ⟨g, 0, none⟩) cap X.f2 A4 c4 X.f3 W4 hWr4 hS4 hRbB hRkN hd4 (by omega) hc4 HBb.out HNb.out ⟨hf1, hf2⟩ (by omega) (by omega) (by omega))
      have hvl := valL_len X.f0 X.f1 X.f2 X.f3 (by omega) (by omega)
      clear hBr4 hRg hRi hCg hWr4 hS4 hRbB hRkN hown hHO5 b75 b65 hd4 HW HO
      generalize valL X.f0 X.f1 X.f2 X.f3 = V5 at *
      refine HWC.out.mono ?_
      rintro e w5 ⟨v5, rfl, ho5, ht5⟩
      obtain ⟨A5, c5, rfl, -⟩ := Kd.R_reads ho5
      have HO5 := Aside0.mk (Kd.R_reads' ho5).2.2
      have HT5 := Aside0.mk ht5
      have qs6 := ht5.only.size
      have HHO := Aside0.mk (Kd.R_mono (R_only HHO5.out ht5.only (fun i hi => by rcases hi with h | h; exact h.1; exact h.elim)) (fun i hi => (by rcases hi with h | h; exact .inl h; exact h.elim : (¬ S i ∧ i < wr.heap.size) ∨ w5.heap.size ≤ i)))
      have HRG5 := Aside0.mk (R_only HRG.out ht5.only (fun i hi => HD4.out i (by omega)))
      have HRI5 := Aside0.mk (R_only HRI.out ht5.only (fun i hi => HD4.out i (by omega)))
      have HBB5 := Aside0.mk (HBB4.out.trans (ht5.only.below (B := w.heap.size) (fun i hi => (HS.out i hi).1) HBB4.out.size))
      have HB755 := Aside0.mk (ht5.only.same_block HB75.out (HD4.out _ (by omega)))
      have HB655 := Aside0.mk (ht5.only.same_block HB65.out (HD4.out _ (by omega)))
      have hsw : w.heap.size ≤ w5.heap.size := HBB5.out.size
      clear ho5 ht5 HWC HHO5 HRG HRI HBB4 HB75 HB65
      go_wp2_with (((with_reducible refine gate_builtin (b := .append) (xs := #[.tmp 32, .tmp 35]) rfl ?_); at_builtin; go_must (refine Kd.R_append_rows (Kd.int .u8) (w0 := w5) w.heap.size rfl (.tmp 32) (.tmp 35) 26 5 (.int .u8 0) 1 rfl Try.underlying26 info5 rfl (by decide) (by omega) (.slice Aw LW.length cw) LW V5 _ _ _ (fun i => (¬ S i ∧ i < wr.heap.size) ∨ w5.heap.size ≤ i) (fun _ => False) rfl rfl HHO.out HO5.out (fun _ _ h => h) (fun _ h => h.elim) (fun _ hk => .inr hk) (Below.refl _ _) hsw ?aL ?_; (case aL => omega); intro v6 w6 ho6 hb6 hg6 hat6; clear hb6 hat6; obtain ⟨A6, c6, hv6, -⟩ := Kd.R_reads ho6; rw [List.length_append] at hv6; subst hv6; have HO6 := Aside0.mk ho6; have HG6 := Aside0.mk hg6; have b76 := (hg6.block (wr.heap.size + 1) (by omega) (fun h => by have := (HOWN.out _ h.symm).1; omega)).trans HB755.out; have b66 := (hg6.block wr.heap.size (by omega) (fun h => by have := (HOWN.out _ h.symm).1; omega)).trans HB655.out; have e72 : w6.cell? ⟨wr.heap.size + 1, 2, none⟩ = some (.slice (some ⟨g, 0, none⟩) X.f2.length cap) := (by rw [cell_of b76]; rfl); have e73 : w6.cell? ⟨wr.heap.size + 1, 3, none⟩ = some (.slice A4 X.f3.length c4) := (by rw [cell_of b76]; rfl); have e62 : w6.cell? ⟨wr.heap.size, 2, none⟩ = some (.slice A2 X.f2.length c2) := (by rw [cell_of b66]; rfl); have e63 : w6.cell? ⟨wr.heap.size, 3, none⟩ = some (.slice A3 X.f3.length c3) := (by rw [cell_of b66]; rfl); clear ho6 hg6 b76 b66)))
      have hW0 := HT5.out.wr
      have og6 : Only w5 w6 (fun i => i < wr.heap.size ∧ ¬ S i ∧ w.heap.size ≤ i) := Only.of_grown HG6.out (fun i hi => HOWN.out i hi)
      have hgr : ∀ i, Grow S W4 w5 i → S i ∨ W4.heap.size ≤ i := fun i hi => hi.imp id (fun h => h.1)
      have hWr6 : Wr w6 (Grow S W4 w5) false (.pointer (some ⟨w2.heap.size, 0, none⟩)) (LW ++ V5) := hW0.only og6 (fun i hi h => by rcases hgr i hi with h1 | h1; exact h.2.1 h1; omega)
      have hRg6 := R_only HRG5.out og6 (fun i hi h => by omega)
      have hRi6 := R_only HRI5.out og6 (fun i hi h => by omega)
      have HWR6 := Aside0.mk hWr6
      have HRG6 := Aside0.mk hRg6
      have HCI6 := Aside0.mk (Kd.R_reads' hRi6).2.2
      have HBB6 := Aside0.mk (HBB5.out.trans (og6.below (B := w.heap.size) (fun i hi => hi.2.2) hsw))
      have HGR := Aside0.mk hgr
      have hs6 := og6.size
      clear hW0 og6 hWr6 hRg6 hRi6 hgr HG6 HRG5 HRI5 HBB5 HHO HO5
      refine (laminanum_Kept.calls g cap W1.heap.size _ A2 c2 X.f2 w6 HRG6.out (G2.out.old HBB6.out).row (by omega)).mono ?_
      rintro e w7 ⟨rfl, ⟨n7, rfl⟩⟩
      go_wp2_with fail
      refine (laminanum_Ints.calls 400 A4 c4 X.f3 A3 c3 X.f3 true _ (Kd.C_drewN HCI6.out _) hc4 (G3.out.old (pw_below_drewN HBB6.out _)).row l3 (ints_refl X.f3 (by omega) 400 (by omega))).mono ?_
      rintro e w8 ⟨rfl, ⟨n8, rfl⟩⟩
      go_wp2_with fail
      have hRbg : Rb (w6.drewN (n7 + n8)) (fun i => i = g) (some ⟨g, 0, none⟩) X.f2 := ⟨Kd.C_drewN (Kp_C HRG6.out).1 _, fun _ a ha => by cases ha; rfl⟩
      have hNfg : Nf (w6.drewN (n7 + n8)) (some ⟨g, 0, none⟩) X.f2 := fun _ a ha => by
        cases ha
        obtain ⟨g', cap', e', _, _, cells, hc'⟩ := Kd.R_form HRG6.out (by simp)
        cases e'
        exact ⟨rfl, cells, hc'⟩
      refine (laminanum_Over.seg (fun i => i = g) (some ⟨g, 0, none⟩) cap X.f2 _ hRbg hNfg).mono ?_
      rintro e w9 ⟨rfl, hsg⟩
      have og9 := hsg.only hRbg
      have hWr9 := (HWR6.out.below (pw_below_drewN (Below.refl w6.heap.size w6) (n7 + n8))).only og9 (fun i hi (h : i = g) => by have := (HGR.out i hi).imp (fun h => (HS.out i h).2) id; omega)
      have hRw9 := R_only (Kd.R_drewN HO6.out (n7 + n8)) og9 (fun i hi (h : i = g) => by rcases hi with h1 | h1 <;> omega)
      have HWR9 := Aside0.mk hWr9
      have HRW9 := Aside0.mk (Kd.R_mono (Kd.R_bound hRw9) (fun i hi => (⟨hi.1, hi.2.2.1⟩ : ((¬ S i ∧ i < wr.heap.size) ∨ w5.heap.size ≤ i) ∧ i < w9.heap.size)))
      have HBB9 := Aside0.mk ((pw_below_drewN HBB6.out (n7 + n8)).trans (og9.below (B := w.heap.size) (fun i hi => by omega) HBB6.out.size))
      have hs9 : w6.heap.size ≤ w9.heap.size := og9.size
      clear hRbg hNfg hsg og9 hWr9 hRw9 e72 e73 e62 e63 HWR6 HRG6 HCI6 HBB6 HO6
      go_wp2_with fail
      refine (wire_Writer_Out.calls _ false _ (LW ++ V5) w9 HWR9.out (by rw [List.length_append]; omega)).mono ?_
      rintro e w10 ⟨v10, rfl, ho10, hb10⟩
      obtain ⟨A10, c10, rfl, -⟩ := Kd.R_reads ho10
      have hcA := (Kd.R_reads' ho10).2.1
      have HO10 := Aside0.mk ho10
      have HRW10 := Aside0.mk (Kd.R_below HRW9.out hb10)
      have HWR10 := Aside0.mk (HWR9.out.below hb10)
      have HBB10 := Aside0.mk (below_step HBB9.out hb10)
      have hcW := (Kd.R_reads' HRW10.out).2.1
      have HLVL := Aside0.mk (show (LW ++ V5).length = LW.length + V5.length by simp)
      have hs10 := hb10.size
      clear ho10 hb10 HRW9 HWR9
      have HSM := Aside0.mk (fun n => laminanum_Same.calls A10 c10 (LW ++ V5) A6 c6 (LW ++ V5) true (w10.drewN n) (Kd.C_drewN (Kd.R_reads' HO10.out).2.2 _) hcA (Kd.C_drewN (Kd.R_reads' HRW10.out).2.2 _) (by rw [← HLVL.out] at hcW; exact hcW) (same_refl _))
      have HSM0 := Aside0.mk (laminanum_Same.calls A10 c10 (LW ++ V5) A6 c6 (LW ++ V5) true w10 (Kd.R_reads' HO10.out).2.2 hcA (Kd.R_reads' HRW10.out).2.2 (by rw [← HLVL.out] at hcW; exact hcW) (same_refl _))
      go_wp2_with fail
      have hsm := HSM0.out
      rw [HLVL.out] at hsm
      refine hsm.mono ?_
      rintro e w11 ⟨rfl, ⟨n11, rfl⟩⟩
      clear hsm HSM HSM0
      go_wp2_with fail
      have hRb10 : Rb (w10.drewN n11) (fun i => w9.heap.size ≤ i) A10 (LW ++ V5) := ⟨Kd.C_drewN (Kd.R_reads' HO10.out).2.2 _, fun _ a ha => by subst ha; exact Kd.R_base HO10.out a.block rfl⟩
      have hNf10 : Nf (w10.drewN n11) A10 (LW ++ V5) := fun hp a ha => by
        obtain ⟨g', cap', e', _, _, cells, hc'⟩ := Kd.R_form HO10.out hp
        subst ha
        injection e' with e1 _ _
        cases e1
        exact ⟨rfl, cells, hc'⟩
      have hov := laminanum_Over.seg (fun i => w9.heap.size ≤ i) A10 c10 (LW ++ V5) _ hRb10 hNf10
      rw [HLVL.out] at hov
      refine hov.mono ?_
      rintro e w12 ⟨rfl, hsg⟩
      rw [← HLVL.out] at hsg
      have og12 := hsg.only hRb10
      have HWR12 := Aside0.mk ((HWR10.out.below (pw_below_drewN (Below.refl w10.heap.size w10) n11)).only og12 (fun i hi h => by have := (HGR.out i hi).imp (fun h => (HS.out i h).2) id; have : i < w5.heap.size := (by rcases hi with h1 | h1; have := (HS.out i h1).2; omega; exact h1.2); omega))
      have HRW12 := Aside0.mk (R_only (Kd.R_drewN HRW10.out n11) og12 (fun i hi h => by omega))
      have HBB12 := Aside0.mk ((pw_below_drewN HBB10.out n11).trans (og12.below (B := w.heap.size) (fun i hi => by have := HBB9.out.size; omega) HBB10.out.size))
      have hs12 : w10.heap.size ≤ w12.heap.size := og12.size
      clear hsg og12 hRb10 hNf10 hov
      go_wp2
      refine ⟨⟨k + 1, Grow S W4 w5, by omega, by go_num, ?_, ⟨fun i hi => ?_⟩, ?_, HBB12⟩, by simp [intOf]; omega⟩
      · rw [HLN.out]
        exact HWR12
      · rcases hi with h1 | h1
        · have := HS.out i h1
          omega
        · have := HBB12.out.size
          omega
      · rw [HLN.out]
        exact ⟨Kd.R_mono HRW12.out (fun i hi h => by rcases hi.1 with h1 | h1; rcases h with h2 | h2; exact h1.1 h2; omega; rcases h with h2 | h2; have := (HS.out i h2).2; omega; omega)⟩
    · obtain rfl : k = l0.length := by omega
      subst hvw
      rw [List.take_length] at hLW
      have hs := HB.out.size
      go_wp2_with fail
      refine (wire_Writer_Out.calls _ false _ LW wr HW.out (by omega)).mono ?_
      rintro e w10 ⟨v10, rfl, ho10, hb10⟩
      obtain ⟨A10, c10, rfl, -⟩ := Kd.R_reads ho10
      have hRW := Kd.R_below HO.out hb10
      have hsm := laminanum_Same.calls A10 c10 LW Aw cw LW true w10 (Kd.R_reads' ho10).2.2 (Kd.R_reads' ho10).2.1 (Kd.R_reads' hRW).2.2 (Kd.R_reads' hRW).2.1 (same_refl _)
      have HBB := Aside0.mk (below_step HB.out hb10)
      clear ho10 hb10 hRW hLW
      go_wp2_with fail
      refine hsm.mono ?_
      rintro e w11 ⟨rfl, ⟨n11, rfl⟩⟩
      go_wp2
      go_ret
      exact ⟨rfl, pw_below_drewN HBB.out _⟩

end Go.Proofs.Ytibpbihcbgcedaa.Hp
