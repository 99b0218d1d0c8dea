/- Contracts of functions of the given program, and what they lean on: written by this session's own program, out of hand texts laid into the kit's printer. -/
import Derived.Test.YtibpbihcbgcedaaHp0
import Derived.Test.YtibpbihcbgcedaaHg1
import Derived.Test.YtibpbihcbgcedaaHg2
namespace Go.Proofs.Ytibpbihcbgcedaa.Hp
open Go.RowKit Go.Proofs.YtibpbihcbgcedaaW.PrintWords Go.Proofs.YtibpbihcbgcedaaW.PrintLast Go.Proofs.YtibpbihcbgcedaaW.PrintMore
attribute [local go_sem] max2_int min2_int max_two min_two max_three min_three max_four min_four   -- for this text's walks alone
set_option linter.unusedVariables false
set_option linter.unusedSimpArgs false

/-! ### laminalaw03_WireNone: function 7 -/
/-- A row of one element, whose cells are a block. -/
theorem C_one {α : Type} (d : Kd α) (W : World) (x : α) (cs : Array Value) (t : Nat) (hK : d.K (W.alloc (.cells cs t)) x cs.toList) : d.C (W.alloc (.cells cs t)) (some ⟨W.heap.size, 0, none⟩) 1 [x] := by
  refine ⟨rfl, by omega, fun _ => ⟨_, rfl, fun j p hj => ?_⟩⟩
  rcases j with _ | j
  · simp only [List.getElem?_cons_zero, Option.some.injEq] at hj
    subst hj
    refine ⟨cs.toList, d.K_len hK, hK, fun i u hu => ?_⟩
    rw [Nat.zero_mul, Nat.zero_add, add_plain, cell_of (heap_alloc_new W (.cells cs t))]
    simpa using hu
  · simp at hj
set_option maxHeartbeats 1000000 in
theorem laminalaw03_WireNone.law (cs0 : Array Value) (x0 : S31) (w : World) (hk0 : k31.K w x0 cs0.toList) (hg0 : (Lit.int .i64 x0.f0).wf = true ∧ (Lit.int .i64 x0.f1).wf = true ∧ (x0.f2.length * 1 ≤ 140737488351232 ∧ ∀ n ∈ x0.f2, (Lit.int .u8 n).wf = true) ∧ (x0.f3.length * 8 ≤ 140737488351232 ∧ ∀ n ∈ x0.f3, (Lit.int .i64 n).wf = true)) :
    Calls Try.prog 7 #[.agg cs0] w fun e w' => e = .returned (.bool true) ∧ Below w.heap.size w w' := by
  have hu46 := Try.underlying46
  have hu49 := Try.underlying49
  obtain ⟨A2, c2, A3, c3, hcs, l2, g2, l3, g3⟩ := k31_open hk0
  obtain rfl : cs0 = #[.int .i64 x0.f0, .int .i64 x0.f1, .slice A2 x0.f2.length c2, .slice A3 x0.f3.length c3] := by
    apply Array.toList_inj.1
    rw [hcs]
  obtain ⟨r, hlf, hlp⟩ := large_f [x0] (by simp)
  have HLF := Aside0.mk hlf
  have HLP := Aside0.mk hlp
  have hn1 := wf_i64 hg0.2.1
  have HBb := Aside0.mk (wfs_u8 hg0.2.2.1.2)
  have HNb := Aside0.mk (fun x hx => wf_i64 (hg0.2.2.2.2 x hx))
  have G2 := Aside0.mk (Rk.of_C g2)
  have G3 := Aside0.mk (Rk.of_C g3)
  have HK := Aside0.mk (fun W (hb : Below w.heap.size w W) => k31.K_below hb hk0)
  have HAL := fun W => laminalaw03_alive.calls W
  clear hlf hlp hg0 g2 g3 hk0 hcs
  go_enter Try.func7, Try.ntmps7
  go_wp2_with fail
  have hb1 := below_alloc (Below.refl w.heap.size w) (.cells #[.int .i64 x0.f0, .int .i64 x0.f1, .slice A2 x0.f2.length c2, .slice A3 x0.f3.length c3] 31)
  have hq1 := heap_alloc_new w (.cells #[.int .i64 x0.f0, .int .i64 x0.f1, .slice A2 x0.f2.length c2, .slice A3 x0.f3.length c3] 31)
  have hs1 : (w.alloc (.cells #[.int .i64 x0.f0, .int .i64 x0.f1, .slice A2 x0.f2.length c2, .slice A3 x0.f3.length c3] 31)).heap.size = w.heap.size + 1 := by simp
  generalize w.alloc (.cells #[.int .i64 x0.f0, .int .i64 x0.f1, .slice A2 x0.f2.length c2, .slice A3 x0.f3.length c3] 31) = w1 at *
  refine (HAL _).mono ?_
  rintro e w2 ⟨rfl, hb⟩
  have hq2 := (hb.block w.heap.size (by omega)).trans hq1
  have d0 : w2.cell? ⟨w.heap.size, 0, none⟩ = some (.int .i64 x0.f0) := by rw [cell_of hq2]; rfl
  have d1 : w2.cell? ⟨w.heap.size, 1, none⟩ = some (.int .i64 x0.f1) := by rw [cell_of hq2]; rfl
  have d2 : w2.cell? ⟨w.heap.size, 2, none⟩ = some (.slice A2 x0.f2.length c2) := by rw [cell_of hq2]; rfl
  have d3 : w2.cell? ⟨w.heap.size, 3, none⟩ = some (.slice A3 x0.f3.length c3) := by rw [cell_of hq2]; rfl
  have HB2 := Aside0.mk (hb1.trans (hb.mono (by omega)))
  have HQ2 := Aside0.mk hq2
  have hs2 := hb.size
  clear hb hb1 hq1 hq2
  go_wp2_with fail
  have hC := C_one k31 w2 x0 #[.int .i64 x0.f0, .int .i64 x0.f1, .slice A2 x0.f2.length c2, .slice A3 x0.f3.length c3] 31 (HK.out _ (below_alloc HB2.out _))
  refine (laminalaw03_large.calls _ (some ⟨w2.heap.size, 0, none⟩) 1 [x0] r _ hC (by simp) HLF.out).mono ?_
  rintro e w3 ⟨rfl, hb⟩
  have hq3 := (hb.block w.heap.size (by simp; omega)).trans ((Below.heap_alloc w2 _ w.heap.size (by omega)).trans HQ2.out)
  have HB3 := Aside0.mk ((HB2.out.alloc HB2.out.size _).trans (hb.mono (by simp; omega)))
  have hs3 : w2.heap.size < w3.heap.size := by have := hb.size; simp at this; omega
  clear hb hC d0 d1 d2 d3
  rcases r with _ | _
  rotate_left
  · go_wp2
    go_ret
    exact ⟨rfl, HB3.out⟩
  obtain ⟨-, hbd⟩ := HLP.out rfl
  obtain ⟨hxB, hxN⟩ := hbd 0 (by simp)
  have hz : rd_T31 [x0] ((0 : Nat) : Int) = x0 := rfl
  rw [hz] at hxB hxN
  have e0 : w3.cell? ⟨w.heap.size, 0, none⟩ = some (.int .i64 x0.f0) := by rw [cell_of hq3]; rfl
  have e1 : w3.cell? ⟨w.heap.size, 1, none⟩ = some (.int .i64 x0.f1) := by rw [cell_of hq3]; rfl
  have e2 : w3.cell? ⟨w.heap.size, 2, none⟩ = some (.slice A2 x0.f2.length c2) := by rw [cell_of hq3]; rfl
  have e3 : w3.cell? ⟨w.heap.size, 3, none⟩ = some (.slice A3 x0.f3.length c3) := by rw [cell_of hq3]; rfl
  have HQ3 := Aside0.mk hq3
  clear hq3 hz hbd HLP HLF HK
  go_wp2_with fail
  refine (laminalaw03_write.calls (fun _ => False) true (.pointer none) [] x0.f0 x0.f1 (fun i => i < w.heap.size) A2 c2 x0.f2 A3 c3 x0.f3 w3 (.inl ⟨rfl, rfl, rfl⟩) (fun _ h => h.elim) (G2.out.old HB3.out) (G3.out.old HB3.out) (fun _ _ h => h) l2 l3 HBb.out HNb.out hn1 (by simp) (by omega) (by omega)).mono ?_
  rintro e w4 ⟨v4, rfl, -, ht⟩
  have hq4 := ht.only.same_block HQ3.out (fun h => h)
  have HB4 := Aside0.mk (HB3.out.trans (ht.only.below (B := w.heap.size) (fun _ h => h.elim) HB3.out.size))
  have hs4 := ht.only.size
  have HQ4 := Aside0.mk hq4
  clear ht hq4 e0 e1 e2 e3
  go_wp2_with fail
  have hqm := heap_alloc_new w4 (.cells #[.slice none 0 0, .bool true] 42)
  have hs5 : (w4.alloc (.cells #[.slice none 0 0, .bool true] 42)).heap.size = w4.heap.size + 1 := by simp
  have HB5 := Aside0.mk (HB4.out.alloc HB4.out.size (.cells #[.slice none 0 0, .bool true] 42))
  have hq5 := (Below.heap_alloc w4 (.cells #[.slice none 0 0, .bool true] 42) w.heap.size (by omega)).trans HQ4.out
  have HRM := Aside0.mk (show Rm (w4.alloc (.cells #[.slice none 0 0, .bool true] 42)) (fun _ => False) w4.heap.size [] true from ⟨none, 0, hqm, by simp, ⟨Kd.C_nil _ _, fun h => absurd h (by simp)⟩, fun h => h, fun _ => rfl, by simp⟩)
  clear hqm
  generalize w4.alloc (.cells #[.slice none 0 0, .bool true] 42) = w5 at *
  refine (wire_Writer_Out.calls (fun _ => False) true (.pointer none) [] w5 (.inl ⟨rfl, rfl, rfl⟩) (by simp)).mono ?_
  rintro e w6 ⟨v6, rfl, ho6, hb6⟩
  obtain ⟨A6, c6, rfl, -⟩ := Kd.R_reads ho6
  have hq6 := (hb6.block w.heap.size (by omega)).trans hq5
  have HRM6 := Aside0.mk (HRM.out.below hb6)
  have HB6 := Aside0.mk (HB5.out.trans (hb6.mono (by omega)))
  have hs6 := hb6.size
  have e0 : w6.cell? ⟨w.heap.size, 0, none⟩ = some (.int .i64 x0.f0) := by rw [cell_of hq6]; rfl
  clear ho6 hb6 hq5 hq6
  go_wp2_with fail
  refine (laminalaw03_read.calls (fun _ => False) (.pointer none) [] true (fun _ => False) w4.heap.size [] true x0.f0 w6 (.inl ⟨rfl, rfl, rfl⟩) HRM6.out (fun h => h) (fun h => by cases h) (fun _ h => h.elim) (fun _ h => h.elim) (fun _ h => h.elim) (fun _ h => h.elim) (by simp) (by simp)).mono ?_
  rintro e w7 ⟨b, rfl, hbt, hto⟩
  obtain rfl := ReadOk.same hbt
  have HB7 := Aside0.mk (HB6.out.trans (hto.only.below (B := w.heap.size) (fun i hi => by rcases hi with h | h | h; cases h; omega; exact h.elim) HB6.out.size))
  clear hto hbt
  go_wp2_with fail
  refine (wire_Reader_Left.calls (fun _ => False) (.pointer none) [] true _ (.inl ⟨rfl, rfl, rfl⟩)).mono ?_
  rintro e w8 ⟨rfl, rfl⟩
  go_wp2_with fail
  refine (wire_Reader_End.calls (fun _ => False) (.pointer none) [] true _ (.inl ⟨rfl, rfl, rfl⟩)).mono ?_
  rintro e w8 ⟨rfl, rfl⟩
  rw [show endE [] true = some 2 by rfl]
  have HIS := laminanum_Is.calls (some 2) 2 true w7 (by rfl)
  rw [errW_some] at HIS ⊢
  go_wp2_with fail
  refine HIS.mono ?_
  rintro e w8 ⟨rfl, ⟨n8, rfl⟩⟩
  go_wp2
  go_ret
  exact ⟨rfl, pw_below_drewN HB7.out _⟩

end Go.Proofs.Ytibpbihcbgcedaa.Hp
