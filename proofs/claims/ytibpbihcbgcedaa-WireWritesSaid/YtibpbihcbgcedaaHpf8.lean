/- Contracts of functions of the given program, and what they lean on: written by this session's own program hprint.py, which lays hand texts into the kit's printer. -/
import Derived.Test.YtibpbihcbgcedaaHp0
import Derived.Test.YtibpbihcbgcedaaHpaM
import Derived.Test.YtibpbihcbgcedaaHpf35
import Derived.Test.YtibpbihcbgcedaaHpf15
import Derived.Test.YtibpbihcbgcedaaHpf17
import Derived.Test.YtibpbihcbgcedaaHpf20
import Derived.Test.YtibpbihcbgcedaaHpf23
import Derived.Test.YtibpbihcbgcedaaHpf24
import Derived.Test.YtibpbihcbgcedaaHpf47
import Derived.Test.YtibpbihcbgcedaaHpf26
import Derived.Test.YtibpbihcbgcedaaHpf27
import Derived.Test.YtibpbihcbgcedaaHpf49
namespace Go.Proofs.Ytibpbihcbgcedaa.Hp
open Go.RowKit Go.Proofs.YtibpbihcbgcedaaW.PrintWords Go.Proofs.YtibpbihcbgcedaaW.PrintLast Go.Proofs.YtibpbihcbgcedaaW.PrintMore
attribute [local go_sem] max2_int min2_int max_two min_two max_three min_three max_four min_four   -- for this text's walks alone
set_option linter.unusedVariables false
set_option linter.unusedSimpArgs false

/-! ### laminalaw03_alive: function 8 -/
theorem laminalaw03_alive.calls (w : World) : Calls Try.prog 8 #[] w fun e w' => e = .returned (.bool true) ∧ Below w.heap.size w w' := by
  go_enter Try.func8, Try.ntmps8
  go_wp2_with fail
  refine (wire_Writer_Num.calls _ false _ [] 258 _ (wr_new w) (by simp) (by omega) (by omega)).mono ?_
  rintro e w1 ⟨rfl, h1⟩
  have H1 := Aside0.mk h1
  clear h1
  go_wp2_with fail
  refine (wire_Writer_Flag.calls _ false _ _ true _ H1.out.wr (by decide +kernel)).mono ?_
  rintro e w2 ⟨rfl, h2⟩
  have h2 := H1.out.then_ h2
  rw [show app false (app false [] (numL 258)) [if true = true then 1 else 0] = [2, 1, 0, 0, 0, 0, 0, 0, 1] by decide +kernel] at h2
  have HB2 := Aside0.mk ((below_alloc (Below.refl w.heap.size w) (.cells #[.slice none 0 0] 28)).trans (h2.only.below (B := w.heap.size) (fun i hi => by omega) (by simp)))
  have H2 := Aside0.mk h2
  clear h2 H1
  go_wp2_with fail
  refine (wire_Writer_Out.calls _ false _ _ _ H2.out.wr (by simp)).mono ?_
  rintro e w3 ⟨v3, rfl, ho3, hb3⟩
  obtain ⟨A3, c3, rfl, -⟩ := Kd.R_reads ho3
  have HO3 := Aside0.mk ho3
  have HB3 := Aside0.mk (below_step HB2.out hb3)
  clear ho3 hb3
  go_wp2_with fail
  refine (wire_NewReader.calls A3 c3 [2, 1, 0, 0, 0, 0, 0, 0, 1] _ (Kd.R_reads' HO3.out).2.2 (by decide) (by simp)).mono ?_
  rintro e w4 ⟨p, rfl, h4⟩
  have HB4 := Aside0.mk (below_step HB3.out h4.below)
  have H4 := Aside0.mk h4
  obtain ⟨ad, e, hc⟩ := C_cells (Kd.C_below (Kd.R_reads' HO3.out).2.2 h4.below) (by simp)
  subst e
  have hc0 : w4.cell? ad = some (.int .u8 2) := by have := hc 0 (by simp); rw [add_zero_] at this; exact this
  have hc1 : w4.cell? ⟨ad.block, ad.off + 1, none⟩ = some (.int .u8 1) := hc 1 (by simp)
  have hc8 : w4.cell? ⟨ad.block, ad.off + 8, none⟩ = some (.int .u8 1) := hc 8 (by simp)
  clear h4 hc
  go_wp2_with fail
  refine (wire_Reader_Num.calls _ _ _ _ _ H4.out.rd).mono ?_
  rintro e w5 ⟨rfl, h5⟩
  rw [show numS [2, 1, 0, 0, 0, 0, 0, 0, 1] false = (258, [1], false) by decide +kernel] at h5 ⊢
  have H5 := Aside0.mk h5
  clear h5 hc0 hc1 hc8
  go_wp2_with fail
  refine (wire_Reader_Flag.calls _ _ _ _ _ H5.out.rd).mono ?_
  rintro e w6 ⟨rfl, h6⟩
  rw [show flagS [1] false = (true, [], false) by decide +kernel] at h6 ⊢
  have H6 := Aside0.mk (H5.out.then_ h6)
  clear h6
  go_wp2_with fail
  refine (wire_Reader_End.calls _ _ _ _ _ H6.out.rd).mono ?_
  rintro e w7 ⟨rfl, rfl⟩
  rw [show endE [] false = none by decide +kernel, errW_none]
  go_wp2
  go_ret
  refine ⟨rfl, HB4.out.trans (H6.out.only.below (B := w.heap.size) (fun i hi => ?_) HB4.out.size)⟩
  have := (H4.out.pt i hi).1
  have := HB3.out.size
  omega

-- AUX valw
/-- A value's bytes, by its kind. -/
def valL (kind n : Int) (B Ns : List Int) : List Int :=
  if kind = 0 then [n % 256] else if kind = 2 then [if n = 1 then 1 else 0] else if kind = 3 then numL B.length ++ B else if kind = 4 then numL B.length ++ B else if kind = 5 then numL Ns.length ++ numsL Ns else numL n
theorem valL_len (kind n : Int) (B Ns : List Int) (hB : B.length ≤ 1000) (hN : Ns.length ≤ 1000) : (valL kind n B Ns).length ≤ 9000 := by
  unfold valL
  split
  · simp
  split
  · simp
  split
  · rw [List.length_append, numL_len]; omega
  split
  · rw [List.length_append, numL_len]; omega
  split
  · rw [List.length_append, numL_len, numsL_len]; omega
  · rw [numL_len]; omega
theorem bytesOf_str {l : List Int} (h : ∀ x ∈ l, 0 ≤ x ∧ x < 256) : bytesOf (strOfNums l) = l := by
  unfold bytesOf
  rw [strOfNums_data]
  induction l with
  | nil => rfl
  | cons x l ih =>
    have hx := h x (List.mem_cons_self ..)
    simp only [List.map_cons]
    rw [ih (fun y hy => h y (List.mem_cons_of_mem _ hy))]
    congr 1
    rw [UInt8.toNat_ofNat']
    omega

end Go.Proofs.Ytibpbihcbgcedaa.Hp
