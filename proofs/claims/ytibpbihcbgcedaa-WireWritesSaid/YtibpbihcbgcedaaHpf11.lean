/- Contracts of functions of the given program, and what they lean on: written by this session's own program hprint.py, which lays hand texts into the kit's printer. -/
import Derived.Test.YtibpbihcbgcedaaHp0
import Derived.Test.YtibpbihcbgcedaaHpaM
import Derived.Test.YtibpbihcbgcedaaHpf35
import Derived.Test.YtibpbihcbgcedaaHpf17
import Derived.Test.YtibpbihcbgcedaaHpf47
import Derived.Test.YtibpbihcbgcedaaHpf26
import Derived.Test.YtibpbihcbgcedaaHpf27
import Derived.Test.YtibpbihcbgcedaaHpf8
import Derived.Test.YtibpbihcbgcedaaHpf28
import Derived.Test.YtibpbihcbgcedaaHpf29
import Derived.Test.YtibpbihcbgcedaaHpf34
import Derived.Test.YtibpbihcbgcedaaHpf30
import Derived.Test.YtibpbihcbgcedaaHpf49
import Derived.Test.YtibpbihcbgcedaaHpf31
import Derived.Test.YtibpbihcbgcedaaHpf32
import Derived.Test.YtibpbihcbgcedaaHpf33
namespace Go.Proofs.Ytibpbihcbgcedaa.Hp
open Go.RowKit Go.Proofs.YtibpbihcbgcedaaW.PrintWords Go.Proofs.YtibpbihcbgcedaaW.PrintLast Go.Proofs.YtibpbihcbgcedaaW.PrintMore
attribute [local go_sem] max2_int min2_int max_two min_two max_three min_three max_four min_four   -- for this text's walks alone
set_option linter.unusedVariables false
set_option linter.unusedSimpArgs false

/-! ### laminalaw03_write: function 11 -/
theorem write_byte (S : Nat → Prop) (z : Bool) (h : Value) (l : List Int) (kind n : Int) (T : Nat → Prop) (AB : Option Addr) (cB : Nat) (B : List Int) (AN : Option Addr) (cN : Nat) (Ns : List Int) (w : World) (hw : Wr w S z h l) (hS : ∀ i, S i → i < w.heap.size)
    (hB : Rb w T AB B) (hN : Rk .i64 w T AN Ns) (hd : ∀ i, T i → ¬ S i) (hcB : B.length ≤ cB) (hcN : Ns.length ≤ cN) (hBb : ∀ x ∈ B, 0 ≤ x ∧ x < 256) (hNb : ∀ x ∈ Ns, -9223372036854775808 ≤ x ∧ x ≤ 9223372036854775807) (hn : -9223372036854775808 ≤ n ∧ n ≤ 9223372036854775807)
    (hl : l.length ≤ 1000000) (hBl : B.length ≤ 1000) (hNl : Ns.length ≤ 1000) (hk : kind = 0) :
    Calls Try.prog 11 #[h, .agg #[.int .i64 kind, .int .i64 n, .slice AB B.length cB, .slice AN Ns.length cN]] w fun e w' => ∃ v, e = .returned v ∧ Kd.R (Kd.int .u8) 5 w' w.heap.size (fun _ => True) v ([n % 256]) ∧ WrTo w w' S z h (app z l ([n % 256])) := by
  have HW := Aside0.mk hw
  have HB0 := Aside0.mk (hB.below (below_alloc (Below.refl _ w) (.cells #[.int .i64 kind, .int .i64 n, .slice AB B.length cB, .slice AN Ns.length cN] 31)))
  have HN0 := Aside0.mk (hN.below (below_alloc (Below.refl _ w) (.cells #[.int .i64 kind, .int .i64 n, .slice AB B.length cB, .slice AN Ns.length cN] 31)))
  have HBb := Aside0.mk hBb
  have HNb := Aside0.mk hNb
  obtain ⟨hn1, hn2⟩ := hn
  clear hw hB hN hBb hNb
  subst hk
  go_enter Try.func11, Try.ntmps11
  go_wp2_with fail
  refine (wire_Writer_Byte.calls S z h l (n % 256) _ (HW.out.below (below_alloc (Below.refl _ _) _)) (by omega)).mono ?_
  rintro e w1 ⟨rfl, hx⟩
  have hb1 : w1.heap[w.heap.size]? = some (.cells #[.int .i64 0, .int .i64 n, .slice AB B.length cB, .slice AN Ns.length cN] 31 (0, 0)) := hx.only.same_block (heap_alloc_new w _) (fun h => by have := hS _ h; omega)
  have c1 : w1.cell? ⟨w.heap.size, 1, none⟩ = some (.int .i64 n) := by rw [cell_of hb1]; rfl
  have c2 : w1.cell? ⟨w.heap.size, 2, none⟩ = some (.slice AB B.length cB) := by rw [cell_of hb1]; rfl
  have c3 : w1.cell? ⟨w.heap.size, 3, none⟩ = some (.slice AN Ns.length cN) := by rw [cell_of hb1]; rfl
  have HX := Aside0.mk (hx.late (below_alloc (Below.refl _ _) (.cells #[.int .i64 0, .int .i64 n, .slice AB B.length cB, .slice AN Ns.length cN] 31)))
  clear hb1 hx
  go_wp2
  go_ret
  exact ⟨_, rfl, R_lit w1 w.heap.size [n % 256] HX.out.only.size (by simp), HX.out.below (below_alloc (Below.refl _ _) _)⟩
theorem write_flag_true (S : Nat → Prop) (z : Bool) (h : Value) (l : List Int) (kind n : Int) (T : Nat → Prop) (AB : Option Addr) (cB : Nat) (B : List Int) (AN : Option Addr) (cN : Nat) (Ns : List Int) (w : World) (hw : Wr w S z h l) (hS : ∀ i, S i → i < w.heap.size)
    (hB : Rb w T AB B) (hN : Rk .i64 w T AN Ns) (hd : ∀ i, T i → ¬ S i) (hcB : B.length ≤ cB) (hcN : Ns.length ≤ cN) (hBb : ∀ x ∈ B, 0 ≤ x ∧ x < 256) (hNb : ∀ x ∈ Ns, -9223372036854775808 ≤ x ∧ x ≤ 9223372036854775807) (hn : -9223372036854775808 ≤ n ∧ n ≤ 9223372036854775807)
    (hl : l.length ≤ 1000000) (hBl : B.length ≤ 1000) (hNl : Ns.length ≤ 1000) (hk : kind = 2) (h1 : n = 1) :
    Calls Try.prog 11 #[h, .agg #[.int .i64 kind, .int .i64 n, .slice AB B.length cB, .slice AN Ns.length cN]] w fun e w' => ∃ v, e = .returned v ∧ Kd.R (Kd.int .u8) 5 w' w.heap.size (fun _ => True) v ([1]) ∧ WrTo w w' S z h (app z l ([1])) := by
  have HW := Aside0.mk hw
  have HB0 := Aside0.mk (hB.below (below_alloc (Below.refl _ w) (.cells #[.int .i64 kind, .int .i64 n, .slice AB B.length cB, .slice AN Ns.length cN] 31)))
  have HN0 := Aside0.mk (hN.below (below_alloc (Below.refl _ w) (.cells #[.int .i64 kind, .int .i64 n, .slice AB B.length cB, .slice AN Ns.length cN] 31)))
  have HBb := Aside0.mk hBb
  have HNb := Aside0.mk hNb
  obtain ⟨hn1, hn2⟩ := hn
  clear hw hB hN hBb hNb
  subst hk
  subst h1
  go_enter Try.func11, Try.ntmps11
  go_wp2_with fail
  refine (wire_Writer_Flag.calls S z h l true _ (HW.out.below (below_alloc (Below.refl _ _) _)) (by omega)).mono ?_
  rintro e w1 ⟨rfl, hx⟩
  have hb1 : w1.heap[w.heap.size]? = some (.cells #[.int .i64 2, .int .i64 1, .slice AB B.length cB, .slice AN Ns.length cN] 31 (0, 0)) := hx.only.same_block (heap_alloc_new w _) (fun h => by have := hS _ h; omega)
  have c1 : w1.cell? ⟨w.heap.size, 1, none⟩ = some (.int .i64 1) := by rw [cell_of hb1]; rfl
  have c2 : w1.cell? ⟨w.heap.size, 2, none⟩ = some (.slice AB B.length cB) := by rw [cell_of hb1]; rfl
  have c3 : w1.cell? ⟨w.heap.size, 3, none⟩ = some (.slice AN Ns.length cN) := by rw [cell_of hb1]; rfl
  have HX := Aside0.mk (hx.late (below_alloc (Below.refl _ _) (.cells #[.int .i64 2, .int .i64 1, .slice AB B.length cB, .slice AN Ns.length cN] 31)))
  clear hb1 hx
  go_wp2
  go_ret
  exact ⟨_, rfl, R_lit w1 w.heap.size [1] HX.out.only.size (by simp), HX.out.below (below_alloc (Below.refl _ _) _)⟩
theorem write_flag_false (S : Nat → Prop) (z : Bool) (h : Value) (l : List Int) (kind n : Int) (T : Nat → Prop) (AB : Option Addr) (cB : Nat) (B : List Int) (AN : Option Addr) (cN : Nat) (Ns : List Int) (w : World) (hw : Wr w S z h l) (hS : ∀ i, S i → i < w.heap.size)
    (hB : Rb w T AB B) (hN : Rk .i64 w T AN Ns) (hd : ∀ i, T i → ¬ S i) (hcB : B.length ≤ cB) (hcN : Ns.length ≤ cN) (hBb : ∀ x ∈ B, 0 ≤ x ∧ x < 256) (hNb : ∀ x ∈ Ns, -9223372036854775808 ≤ x ∧ x ≤ 9223372036854775807) (hn : -9223372036854775808 ≤ n ∧ n ≤ 9223372036854775807)
    (hl : l.length ≤ 1000000) (hBl : B.length ≤ 1000) (hNl : Ns.length ≤ 1000) (hk : kind = 2) (h1 : ¬ n = 1) :
    Calls Try.prog 11 #[h, .agg #[.int .i64 kind, .int .i64 n, .slice AB B.length cB, .slice AN Ns.length cN]] w fun e w' => ∃ v, e = .returned v ∧ Kd.R (Kd.int .u8) 5 w' w.heap.size (fun _ => True) v ([0]) ∧ WrTo w w' S z h (app z l ([0])) := by
  have HW := Aside0.mk hw
  have HB0 := Aside0.mk (hB.below (below_alloc (Below.refl _ w) (.cells #[.int .i64 kind, .int .i64 n, .slice AB B.length cB, .slice AN Ns.length cN] 31)))
  have HN0 := Aside0.mk (hN.below (below_alloc (Below.refl _ w) (.cells #[.int .i64 kind, .int .i64 n, .slice AB B.length cB, .slice AN Ns.length cN] 31)))
  have HBb := Aside0.mk hBb
  have HNb := Aside0.mk hNb
  obtain ⟨hn1, hn2⟩ := hn
  clear hw hB hN hBb hNb
  subst hk
  have k1 : (n == 1) = false := by rw [beq_eq_false_iff_ne]; exact h1
  go_enter Try.func11, Try.ntmps11
  go_wp2_with fail
  refine (wire_Writer_Flag.calls S z h l false _ (HW.out.below (below_alloc (Below.refl _ _) _)) (by omega)).mono ?_
  rintro e w1 ⟨rfl, hx⟩
  have hb1 : w1.heap[w.heap.size]? = some (.cells #[.int .i64 2, .int .i64 n, .slice AB B.length cB, .slice AN Ns.length cN] 31 (0, 0)) := hx.only.same_block (heap_alloc_new w _) (fun h => by have := hS _ h; omega)
  have c1 : w1.cell? ⟨w.heap.size, 1, none⟩ = some (.int .i64 n) := by rw [cell_of hb1]; rfl
  have c2 : w1.cell? ⟨w.heap.size, 2, none⟩ = some (.slice AB B.length cB) := by rw [cell_of hb1]; rfl
  have c3 : w1.cell? ⟨w.heap.size, 3, none⟩ = some (.slice AN Ns.length cN) := by rw [cell_of hb1]; rfl
  have HX := Aside0.mk (hx.late (below_alloc (Below.refl _ _) (.cells #[.int .i64 2, .int .i64 n, .slice AB B.length cB, .slice AN Ns.length cN] 31)))
  clear hb1 hx
  go_wp2
  go_ret
  exact ⟨_, rfl, R_lit w1 w.heap.size [0] HX.out.only.size (by simp), HX.out.below (below_alloc (Below.refl _ _) _)⟩
theorem write_bytes (S : Nat → Prop) (z : Bool) (h : Value) (l : List Int) (kind n : Int) (T : Nat → Prop) (AB : Option Addr) (cB : Nat) (B : List Int) (AN : Option Addr) (cN : Nat) (Ns : List Int) (w : World) (hw : Wr w S z h l) (hS : ∀ i, S i → i < w.heap.size)
    (hB : Rb w T AB B) (hN : Rk .i64 w T AN Ns) (hd : ∀ i, T i → ¬ S i) (hcB : B.length ≤ cB) (hcN : Ns.length ≤ cN) (hBb : ∀ x ∈ B, 0 ≤ x ∧ x < 256) (hNb : ∀ x ∈ Ns, -9223372036854775808 ≤ x ∧ x ≤ 9223372036854775807) (hn : -9223372036854775808 ≤ n ∧ n ≤ 9223372036854775807)
    (hl : l.length ≤ 1000000) (hBl : B.length ≤ 1000) (hNl : Ns.length ≤ 1000) (hk : kind = 3) :
    Calls Try.prog 11 #[h, .agg #[.int .i64 kind, .int .i64 n, .slice AB B.length cB, .slice AN Ns.length cN]] w fun e w' => ∃ v, e = .returned v ∧ Kd.R (Kd.int .u8) 5 w' w.heap.size (fun _ => True) v (numL B.length ++ B) ∧ WrTo w w' S z h (app z l (numL B.length ++ B)) := by
  have HW := Aside0.mk hw
  have HB0 := Aside0.mk (hB.below (below_alloc (Below.refl _ w) (.cells #[.int .i64 kind, .int .i64 n, .slice AB B.length cB, .slice AN Ns.length cN] 31)))
  have HN0 := Aside0.mk (hN.below (below_alloc (Below.refl _ w) (.cells #[.int .i64 kind, .int .i64 n, .slice AB B.length cB, .slice AN Ns.length cN] 31)))
  have HBb := Aside0.mk hBb
  have HNb := Aside0.mk hNb
  obtain ⟨hn1, hn2⟩ := hn
  clear hw hB hN hBb hNb
  subst hk
  go_enter Try.func11, Try.ntmps11
  go_wp2_with fail
  refine (wire_Writer_Bytes.calls S z h l T AB cB B _ (HW.out.below (below_alloc (Below.refl _ _) _)) HB0.out hd (by omega)).mono ?_
  rintro e w1 ⟨rfl, hx⟩
  have hb1 : w1.heap[w.heap.size]? = some (.cells #[.int .i64 3, .int .i64 n, .slice AB B.length cB, .slice AN Ns.length cN] 31 (0, 0)) := hx.only.same_block (heap_alloc_new w _) (fun h => by have := hS _ h; omega)
  have c1 : w1.cell? ⟨w.heap.size, 1, none⟩ = some (.int .i64 n) := by rw [cell_of hb1]; rfl
  have c2 : w1.cell? ⟨w.heap.size, 2, none⟩ = some (.slice AB B.length cB) := by rw [cell_of hb1]; rfl
  have c3 : w1.cell? ⟨w.heap.size, 3, none⟩ = some (.slice AN Ns.length cN) := by rw [cell_of hb1]; rfl
  have HX0 := Aside0.mk hx
  have HX := Aside0.mk (hx.late (below_alloc (Below.refl _ _) (.cells #[.int .i64 3, .int .i64 n, .slice AB B.length cB, .slice AN Ns.length cN] 31)))
  clear hb1 hx
  go_wp2_with fail
  refine (laminaref03_Bytes.calls 9 AB cB B _ _ (HB0.out.only HX0.out.only hd).row hcB (rbytes_f B (by omega) 9 (by omega))).mono ?_
  rintro e w2 ⟨v, rfl, ho, hb⟩
  obtain ⟨A2, c2', hv, -⟩ := Kd.R_reads ho
  generalize List.length _ = m2 at hv
  subst hv
  have HO := Aside0.mk ho
  have HB := Aside0.mk hb
  clear ho hb c1 c2 c3
  go_wp2
  go_ret
  exact ⟨_, rfl, Kd.R_lower HO.out HX.out.only.size, HX.out.below HB.out⟩
theorem write_text (S : Nat → Prop) (z : Bool) (h : Value) (l : List Int) (kind n : Int) (T : Nat → Prop) (AB : Option Addr) (cB : Nat) (B : List Int) (AN : Option Addr) (cN : Nat) (Ns : List Int) (w : World) (hw : Wr w S z h l) (hS : ∀ i, S i → i < w.heap.size)
    (hB : Rb w T AB B) (hN : Rk .i64 w T AN Ns) (hd : ∀ i, T i → ¬ S i) (hcB : B.length ≤ cB) (hcN : Ns.length ≤ cN) (hBb : ∀ x ∈ B, 0 ≤ x ∧ x < 256) (hNb : ∀ x ∈ Ns, -9223372036854775808 ≤ x ∧ x ≤ 9223372036854775807) (hn : -9223372036854775808 ≤ n ∧ n ≤ 9223372036854775807)
    (hl : l.length ≤ 1000000) (hBl : B.length ≤ 1000) (hNl : Ns.length ≤ 1000) (hk : kind = 4) :
    Calls Try.prog 11 #[h, .agg #[.int .i64 kind, .int .i64 n, .slice AB B.length cB, .slice AN Ns.length cN]] w fun e w' => ∃ v, e = .returned v ∧ Kd.R (Kd.int .u8) 5 w' w.heap.size (fun _ => True) v (numL B.length ++ B) ∧ WrTo w w' S z h (app z l (numL B.length ++ B)) := by
  have HW := Aside0.mk hw
  have HB0 := Aside0.mk (hB.below (below_alloc (Below.refl _ w) (.cells #[.int .i64 kind, .int .i64 n, .slice AB B.length cB, .slice AN Ns.length cN] 31)))
  have HN0 := Aside0.mk (hN.below (below_alloc (Below.refl _ w) (.cells #[.int .i64 kind, .int .i64 n, .slice AB B.length cB, .slice AN Ns.length cN] 31)))
  have HBb := Aside0.mk hBb
  have HNb := Aside0.mk hNb
  obtain ⟨hn1, hn2⟩ := hn
  clear hw hB hN hBb hNb
  subst hk
  have hcv := Kd.C_string (P := Try.prog) (A := AB) (c := cB) Try.underlying26 Try.underlying5 Try.underlying9 HB0.out.row
  have hbs := bytesOf_str HBb.out
  have hsl : (strOfNums B).size = B.length := by rw [← bytesOf_length, hbs]
  have HBS := Aside0.mk hbs
  have HSL := Aside0.mk hsl
  clear hbs hsl
  go_enter Try.func11, Try.ntmps11
  go_wp2_with fail
  refine (wire_Writer_Text.calls S z h l (strOfNums B) _ (HW.out.below (below_alloc (Below.refl _ _) _)) (by rw [HSL.out]; omega)).mono ?_
  rintro e w1 ⟨rfl, hx⟩
  rw [HSL.out, HBS.out] at hx
  have hb1 : w1.heap[w.heap.size]? = some (.cells #[.int .i64 4, .int .i64 n, .slice AB B.length cB, .slice AN Ns.length cN] 31 (0, 0)) := hx.only.same_block (heap_alloc_new w _) (fun h => by have := hS _ h; omega)
  have c1 : w1.cell? ⟨w.heap.size, 1, none⟩ = some (.int .i64 n) := by rw [cell_of hb1]; rfl
  have c2 : w1.cell? ⟨w.heap.size, 2, none⟩ = some (.slice AB B.length cB) := by rw [cell_of hb1]; rfl
  have c3 : w1.cell? ⟨w.heap.size, 3, none⟩ = some (.slice AN Ns.length cN) := by rw [cell_of hb1]; rfl
  have HX0 := Aside0.mk hx
  have HX := Aside0.mk (hx.late (below_alloc (Below.refl _ _) (.cells #[.int .i64 4, .int .i64 n, .slice AB B.length cB, .slice AN Ns.length cN] 31)))
  clear hb1 hx
  go_wp2_with fail
  refine (laminaref03_Bytes.calls 9 AB cB B _ _ (HB0.out.only HX0.out.only hd).row hcB (rbytes_f B (by omega) 9 (by omega))).mono ?_
  rintro e w2 ⟨v, rfl, ho, hb⟩
  obtain ⟨A2, c2', hv, -⟩ := Kd.R_reads ho
  generalize List.length _ = m2 at hv
  subst hv
  have HO := Aside0.mk ho
  have HB := Aside0.mk hb
  clear ho hb c1 c2 c3
  go_wp2
  go_ret
  exact ⟨_, rfl, Kd.R_lower HO.out HX.out.only.size, HX.out.below HB.out⟩
theorem write_nums (S : Nat → Prop) (z : Bool) (h : Value) (l : List Int) (kind n : Int) (T : Nat → Prop) (AB : Option Addr) (cB : Nat) (B : List Int) (AN : Option Addr) (cN : Nat) (Ns : List Int) (w : World) (hw : Wr w S z h l) (hS : ∀ i, S i → i < w.heap.size)
    (hB : Rb w T AB B) (hN : Rk .i64 w T AN Ns) (hd : ∀ i, T i → ¬ S i) (hcB : B.length ≤ cB) (hcN : Ns.length ≤ cN) (hBb : ∀ x ∈ B, 0 ≤ x ∧ x < 256) (hNb : ∀ x ∈ Ns, -9223372036854775808 ≤ x ∧ x ≤ 9223372036854775807) (hn : -9223372036854775808 ≤ n ∧ n ≤ 9223372036854775807)
    (hl : l.length ≤ 1000000) (hBl : B.length ≤ 1000) (hNl : Ns.length ≤ 1000) (hk : kind = 5) :
    Calls Try.prog 11 #[h, .agg #[.int .i64 kind, .int .i64 n, .slice AB B.length cB, .slice AN Ns.length cN]] w fun e w' => ∃ v, e = .returned v ∧ Kd.R (Kd.int .u8) 5 w' w.heap.size (fun _ => True) v (numL Ns.length ++ numsL Ns) ∧ WrTo w w' S z h (app z l (numL Ns.length ++ numsL Ns)) := by
  have HW := Aside0.mk hw
  have HB0 := Aside0.mk (hB.below (below_alloc (Below.refl _ w) (.cells #[.int .i64 kind, .int .i64 n, .slice AB B.length cB, .slice AN Ns.length cN] 31)))
  have HN0 := Aside0.mk (hN.below (below_alloc (Below.refl _ w) (.cells #[.int .i64 kind, .int .i64 n, .slice AB B.length cB, .slice AN Ns.length cN] 31)))
  have HBb := Aside0.mk hBb
  have HNb := Aside0.mk hNb
  obtain ⟨hn1, hn2⟩ := hn
  clear hw hB hN hBb hNb
  subst hk
  go_enter Try.func11, Try.ntmps11
  go_wp2_with fail
  refine (wire_Writer_Nums.calls S z h l T AN cN Ns _ (HW.out.below (below_alloc (Below.refl _ _) _)) HN0.out hd HNb.out (by omega)).mono ?_
  rintro e w1 ⟨rfl, hx⟩
  have hb1 : w1.heap[w.heap.size]? = some (.cells #[.int .i64 5, .int .i64 n, .slice AB B.length cB, .slice AN Ns.length cN] 31 (0, 0)) := hx.only.same_block (heap_alloc_new w _) (fun h => by have := hS _ h; omega)
  have c1 : w1.cell? ⟨w.heap.size, 1, none⟩ = some (.int .i64 n) := by rw [cell_of hb1]; rfl
  have c2 : w1.cell? ⟨w.heap.size, 2, none⟩ = some (.slice AB B.length cB) := by rw [cell_of hb1]; rfl
  have c3 : w1.cell? ⟨w.heap.size, 3, none⟩ = some (.slice AN Ns.length cN) := by rw [cell_of hb1]; rfl
  have HX0 := Aside0.mk hx
  have HX := Aside0.mk (hx.late (below_alloc (Below.refl _ _) (.cells #[.int .i64 5, .int .i64 n, .slice AB B.length cB, .slice AN Ns.length cN] 31)))
  clear hb1 hx
  go_wp2_with fail
  refine (laminaref03_Nums.calls 2000 AN cN Ns _ _ (HN0.out.only HX0.out.only hd).row hcN (rnums_f Ns (by omega) 2000 (by omega))).mono ?_
  rintro e w2 ⟨v, rfl, ho, hb⟩
  obtain ⟨A2, c2', hv, -⟩ := Kd.R_reads ho
  generalize List.length _ = m2 at hv
  subst hv
  have HO := Aside0.mk ho
  have HB := Aside0.mk hb
  clear ho hb c1 c2 c3
  go_wp2
  go_ret
  exact ⟨_, rfl, Kd.R_lower HO.out HX.out.only.size, HX.out.below HB.out⟩
theorem write_num (S : Nat → Prop) (z : Bool) (h : Value) (l : List Int) (kind n : Int) (T : Nat → Prop) (AB : Option Addr) (cB : Nat) (B : List Int) (AN : Option Addr) (cN : Nat) (Ns : List Int) (w : World) (hw : Wr w S z h l) (hS : ∀ i, S i → i < w.heap.size)
    (hB : Rb w T AB B) (hN : Rk .i64 w T AN Ns) (hd : ∀ i, T i → ¬ S i) (hcB : B.length ≤ cB) (hcN : Ns.length ≤ cN) (hBb : ∀ x ∈ B, 0 ≤ x ∧ x < 256) (hNb : ∀ x ∈ Ns, -9223372036854775808 ≤ x ∧ x ≤ 9223372036854775807) (hn : -9223372036854775808 ≤ n ∧ n ≤ 9223372036854775807)
    (hl : l.length ≤ 1000000) (hBl : B.length ≤ 1000) (hNl : Ns.length ≤ 1000) (h0 : ¬ kind = 0) (h2 : ¬ kind = 2) (h3 : ¬ kind = 3) (h4 : ¬ kind = 4) (h5 : ¬ kind = 5) :
    Calls Try.prog 11 #[h, .agg #[.int .i64 kind, .int .i64 n, .slice AB B.length cB, .slice AN Ns.length cN]] w fun e w' => ∃ v, e = .returned v ∧ Kd.R (Kd.int .u8) 5 w' w.heap.size (fun _ => True) v (numL n) ∧ WrTo w w' S z h (app z l (numL n)) := by
  have HW := Aside0.mk hw
  have HB0 := Aside0.mk (hB.below (below_alloc (Below.refl _ w) (.cells #[.int .i64 kind, .int .i64 n, .slice AB B.length cB, .slice AN Ns.length cN] 31)))
  have HN0 := Aside0.mk (hN.below (below_alloc (Below.refl _ w) (.cells #[.int .i64 kind, .int .i64 n, .slice AB B.length cB, .slice AN Ns.length cN] 31)))
  have HBb := Aside0.mk hBb
  have HNb := Aside0.mk hNb
  obtain ⟨hn1, hn2⟩ := hn
  clear hw hB hN hBb hNb
  have k0 : (kind == 0) = false := by rw [beq_eq_false_iff_ne]; omega
  have k2 : (kind == 2) = false := by rw [beq_eq_false_iff_ne]; omega
  have k3 : (kind == 3) = false := by rw [beq_eq_false_iff_ne]; omega
  have k4 : (kind == 4) = false := by rw [beq_eq_false_iff_ne]; omega
  have k5 : (kind == 5) = false := by rw [beq_eq_false_iff_ne]; omega
  go_enter Try.func11, Try.ntmps11
  go_wp2_with fail
  refine (wire_Writer_Num.calls S z h l n _ (HW.out.below (below_alloc (Below.refl _ _) _)) (by omega) hn1 hn2).mono ?_
  rintro e w1 ⟨rfl, hx⟩
  have hb1 : w1.heap[w.heap.size]? = some (.cells #[.int .i64 kind, .int .i64 n, .slice AB B.length cB, .slice AN Ns.length cN] 31 (0, 0)) := hx.only.same_block (heap_alloc_new w _) (fun h => by have := hS _ h; omega)
  have c1 : w1.cell? ⟨w.heap.size, 1, none⟩ = some (.int .i64 n) := by rw [cell_of hb1]; rfl
  have c2 : w1.cell? ⟨w.heap.size, 2, none⟩ = some (.slice AB B.length cB) := by rw [cell_of hb1]; rfl
  have c3 : w1.cell? ⟨w.heap.size, 3, none⟩ = some (.slice AN Ns.length cN) := by rw [cell_of hb1]; rfl
  have HX := Aside0.mk (hx.late (below_alloc (Below.refl _ _) (.cells #[.int .i64 kind, .int .i64 n, .slice AB B.length cB, .slice AN Ns.length cN] 31)))
  clear hb1 hx
  go_wp2_with fail
  refine (laminaref03_Num.calls 9 n _ _ (rnum_f n 9 (by omega))).mono ?_
  rintro e w2 ⟨v, rfl, ho, hb⟩
  obtain ⟨A2, c2', hv, -⟩ := Kd.R_reads ho
  generalize List.length _ = m2 at hv
  subst hv
  have HO := Aside0.mk ho
  have HB := Aside0.mk hb
  clear ho hb c1 c2 c3
  go_wp2
  go_ret
  exact ⟨_, rfl, Kd.R_lower HO.out HX.out.only.size, HX.out.below HB.out⟩
theorem laminalaw03_write.calls (S : Nat → Prop) (z : Bool) (h : Value) (l : List Int) (kind n : Int) (T : Nat → Prop) (AB : Option Addr) (cB : Nat) (B : List Int) (AN : Option Addr) (cN : Nat) (Ns : List Int) (w : World) (hw : Wr w S z h l) (hS : ∀ i, S i → i < w.heap.size)
    (hB : Rb w T AB B) (hN : Rk .i64 w T AN Ns) (hd : ∀ i, T i → ¬ S i) (hcB : B.length ≤ cB) (hcN : Ns.length ≤ cN) (hBb : ∀ x ∈ B, 0 ≤ x ∧ x < 256) (hNb : ∀ x ∈ Ns, -9223372036854775808 ≤ x ∧ x ≤ 9223372036854775807) (hn : -9223372036854775808 ≤ n ∧ n ≤ 9223372036854775807)
    (hl : l.length ≤ 1000000) (hBl : B.length ≤ 1000) (hNl : Ns.length ≤ 1000) :
    Calls Try.prog 11 #[h, .agg #[.int .i64 kind, .int .i64 n, .slice AB B.length cB, .slice AN Ns.length cN]] w fun e w' => ∃ v, e = .returned v ∧ Kd.R (Kd.int .u8) 5 w' w.heap.size (fun _ => True) v (valL kind n B Ns) ∧ WrTo w w' S z h (app z l (valL kind n B Ns)) := by
  by_cases h0 : kind = 0
  · rw [show valL kind n B Ns = [n % 256] by unfold valL; rw [if_pos h0]]
    exact write_byte S z h l kind n T AB cB B AN cN Ns w hw hS hB hN hd hcB hcN hBb hNb hn hl hBl hNl h0
  by_cases h2 : kind = 2
  · by_cases h1 : n = 1
    · rw [show valL kind n B Ns = [1] by unfold valL; rw [if_neg h0, if_pos h2, if_pos h1]]
      exact write_flag_true S z h l kind n T AB cB B AN cN Ns w hw hS hB hN hd hcB hcN hBb hNb hn hl hBl hNl h2 h1
    · rw [show valL kind n B Ns = [0] by unfold valL; rw [if_neg h0, if_pos h2, if_neg h1]]
      exact write_flag_false S z h l kind n T AB cB B AN cN Ns w hw hS hB hN hd hcB hcN hBb hNb hn hl hBl hNl h2 h1
  by_cases h3 : kind = 3
  · rw [show valL kind n B Ns = numL B.length ++ B by unfold valL; rw [if_neg h0, if_neg h2, if_pos h3]]
    exact write_bytes S z h l kind n T AB cB B AN cN Ns w hw hS hB hN hd hcB hcN hBb hNb hn hl hBl hNl h3
  by_cases h4 : kind = 4
  · rw [show valL kind n B Ns = numL B.length ++ B by unfold valL; rw [if_neg h0, if_neg h2, if_neg h3, if_pos h4]]
    exact write_text S z h l kind n T AB cB B AN cN Ns w hw hS hB hN hd hcB hcN hBb hNb hn hl hBl hNl h4
  by_cases h5 : kind = 5
  · rw [show valL kind n B Ns = numL Ns.length ++ numsL Ns by unfold valL; rw [if_neg h0, if_neg h2, if_neg h3, if_neg h4, if_pos h5]]
    exact write_nums S z h l kind n T AB cB B AN cN Ns w hw hS hB hN hd hcB hcN hBb hNb hn hl hBl hNl h5
  · rw [show valL kind n B Ns = numL n by unfold valL; rw [if_neg h0, if_neg h2, if_neg h3, if_neg h4, if_neg h5]]
    exact write_num S z h l kind n T AB cB B AN cN Ns w hw hS hB hN hd hcB hcN hBb hNb hn hl hBl hNl h0 h2 h3 h4 h5

end Go.Proofs.Ytibpbihcbgcedaa.Hp
