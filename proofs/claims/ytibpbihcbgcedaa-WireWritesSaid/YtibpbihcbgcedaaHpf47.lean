/- Contracts of functions of the given program, and what they lean on: written by this session's own program hprint.py, which lays hand texts into the kit's printer. -/
import Derived.Test.YtibpbihcbgcedaaHp0
import Derived.Test.YtibpbihcbgcedaaHpaC
import Derived.Test.YtibpbihcbgcedaaHpaM
import Derived.Test.YtibpbihcbgcedaaHpf35
namespace Go.Proofs.Ytibpbihcbgcedaa.Hp
open Go.RowKit Go.Proofs.YtibpbihcbgcedaaW.PrintWords Go.Proofs.YtibpbihcbgcedaaW.PrintLast Go.Proofs.YtibpbihcbgcedaaW.PrintMore
attribute [local go_sem] max2_int min2_int max_two min_two max_three min_three max_four min_four   -- for this text's walks alone
set_option linter.unusedVariables false
set_option linter.unusedSimpArgs false

/-! ### wire_Writer_add: function 47 -/
theorem wire_Writer_add.calls (S : Nat → Prop) (z : Bool) (h : Value) (l : List Int) (A : Option Addr) (c : Nat) (bs : List Int) (w : World) (hw : Wr w S z h l) (hr : Kd.C (Kd.int .u8) w A bs.length bs) (hl : l.length + bs.length ≤ 140737488355328) :
    Calls Try.prog 47 #[h, .slice A bs.length c] w fun e w' => e = .returned (.tuple #[]) ∧ WrTo w w' S z h (app z l bs) := by
  rcases hw with ⟨rfl, rfl, rfl⟩ | ⟨rfl, p, v, rfl, hp, hb, hR⟩
  · clear hr
    go_enter Try.func47, Try.ntmps47
    go_wp2
    go_end0
    exact ⟨rfl, WrTo.refl (.inl ⟨rfl, rfl, rfl⟩)⟩
  · have hcell : w.cell? ⟨p, 0, none⟩ = some v := by rw [cell_of hb]; rfl
    have hplt := blk_size hb
    have HB := Aside0.mk hb
    have HR := Aside0.mk hr
    have HO := Aside0.mk (Kd.R_mono hR (fun k hk => (.inl hk : S k ∨ w.heap.size ≤ k)))
    have HO0 := Aside0.mk hR
    clear hb hr hR
    go_enter Try.func47, Try.ntmps47
    go_wp2_with (((with_reducible refine gate_builtin (b := .append) (xs := #[.tmp 10, .tmp 11]) rfl ?_); at_builtin; refine Kd.R_append_rows (Kd.int .u8) (w0 := w) 0 rfl (.tmp 10) (.tmp 11) 26 5 (.int .u8 0) 1 rfl Try.underlying26 info5 rfl (by decide) (by omega) v l bs _ _ _ (fun k => S k ∨ w.heap.size ≤ k) (fun _ => False) rfl rfl HO.out HR.out (fun _ _ h => h) (fun _ h => h.elim) (fun _ hk => .inr hk) (Below.refl _ _) (Nat.zero_le _) ?aL ?_; (case aL => omega); intro v1 w1 ho hb1 hg hat; clear hb1 hat; obtain ⟨A1, c1, rfl, -⟩ := Kd.R_reads ho; have HO1 := Aside0.mk ho; have HG := Aside0.mk hg; have hcell1 : w1.cell? ⟨p, 0, none⟩ = some v := (by rw [cell_of ((hg.block p hplt (fun e => by obtain ⟨inner, hoo⟩ := Kd.R_own HO0.out; obtain ⟨cells, hc⟩ := own_typed hoo p e.symm; rw [HB.out] at hc; injection hc with hc; injection hc with _ h2 _; exact absurd h2 (by decide))).trans HB.out)]; rfl); have hfz1 : w1.frozen? ⟨p, 0, none⟩ = false := (by rw [frozen_of ((hg.block p hplt (fun e => by obtain ⟨inner, hoo⟩ := Kd.R_own HO0.out; obtain ⟨cells, hc⟩ := own_typed hoo p e.symm; rw [HB.out] at hc; injection hc with hc; injection hc with _ h2 _; exact absurd h2 (by decide))).trans HB.out)]); clear ho hg))
    go_end0
    exact ⟨rfl, by have := wr_put hp HB.out HO0.out HO1.out HG.out; simp only [List.length_append] at this; exact this⟩

-- AUX numL
/-- A number's bytes. -/
def numL (n : Int) : List Int := (List.range 8).map fun i => n / 2 ^ (8 * i) % 256
theorem numL_len (n : Int) : (numL n).length = 8 := by simp [numL]
def numA (n : Int) (k : Nat) : Array Value := ((List.range 8).map fun i => if i < k then .int .u8 (n / 2 ^ (8 * i) % 256) else .int .u8 0).toArray
theorem numA_at (n : Int) (k : Nat) (h : k < 8) : (numA n k)[k]? = some (.int .u8 0) := by simp [numA, h]
theorem numA_set (n : Int) (k : Nat) (h : k < 8) (x : Int) (hx : x = n / 2 ^ (8 * k) % 256) : (numA n k).setIfInBounds k (.int .u8 x) = numA n (k + 1) := by
  subst hx
  refine Array.ext_getElem? fun i => ?_
  simp only [numA, Array.getElem?_setIfInBounds, List.getElem?_toArray, List.getElem?_map]
  by_cases e : k = i
  · subst e
    simp [h]
  · by_cases hi : i < 8
    · have : (i < k + 1) = (i < k) := by simp only [eq_iff_iff]; omega
      simp [e, hi, this]
    · simp [e, hi]
theorem numA_C (n : Int) (w : World) : Kd.C (Kd.int .u8) (w.alloc (.cells (numA n 8) 70)) (some ⟨w.heap.size, 0, none⟩) (numL n).length (numL n) :=
  C_block (Kd.int .u8) rfl (heap_alloc_new w _) (numL n) (by rw [numL_len]; omega) (fun j x hj => by
    have hlt : j < 8 := by
      rcases Nat.lt_or_ge j 8 with h | h
      · exact h
      · rw [List.getElem?_eq_none (by rw [numL_len]; exact h)] at hj; cases hj
    refine ⟨.int .u8 x, ?_, rfl⟩
    simp only [numL, List.getElem?_map, List.getElem?_range hlt, Option.map_some, Option.some.injEq] at hj
    simp [numA, hlt, hj])

end Go.Proofs.Ytibpbihcbgcedaa.Hp
