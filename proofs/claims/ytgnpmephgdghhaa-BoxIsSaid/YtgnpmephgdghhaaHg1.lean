/- Contracts of functions of the given program, and what they lean on: written by this session's own program, out of hand texts laid into the kit's printer. -/
import Derived.Test.YtgnpmephgdghhaaHp0
import Derived.Laws.CopyOwn
import Derived.Laws.Cells
import Derived.Laws.StructEq
import Derived.Lib.AppendZerosOnto
namespace Go.Proofs.Ytgnpmephgdghhaa.Hp
open Go.RowKit Go.Proofs.YtgnpmephgdghhaaW.PrintWords Go.Proofs.YtgnpmephgdghhaaW.PrintLast Go.Proofs.YtgnpmephgdghhaaW.PrintMore
attribute [local go_sem] max2_int min2_int max_two min_two max_three min_three max_four min_four   -- for this text's walks alone
set_option linter.unusedVariables false
set_option linter.unusedSimpArgs false

-- AUX C
-- Words of this session for texts walked by hand: rows of bytes that are made with room, slices of slices.
theorem wf_i64 {n : Int} (h : (Lit.int .i64 n).wf = true) : -9223372036854775808 ≤ n ∧ n ≤ 9223372036854775807 := by
  simp [Lit.wf, IntKind.min, IntKind.max, IntKind.signed, IntKind.bits] at h
  omega
theorem wf_u32 {n : Int} (h : (Lit.int .u32 n).wf = true) : 0 ≤ n ∧ n < 4294967296 := by
  simp [Lit.wf, IntKind.min, IntKind.max, IntKind.signed, IntKind.bits] at h
  omega
theorem wf_u8 {n : Int} (h : (Lit.int .u8 n).wf = true) : 0 ≤ n ∧ n < 256 := by
  simp [Lit.wf, IntKind.min, IntKind.max, IntKind.signed, IntKind.bits] at h
  omega
theorem wfs_u8 {l : List Int} (h : ∀ n ∈ l, (Lit.int .u8 n).wf = true) : ∀ n ∈ l, 0 ≤ n ∧ n < 256 := fun n hn => wf_u8 (h n hn)
theorem const_bytes (w : World) (C : Array Value) (n c : Nat) : (convert 22 22 (.slice (some ⟨w.heap.size, 0, none⟩) n c)).run Try.prog (w.alloc (.cells C 5)) = .ok (.slice (some ⟨w.heap.size, 0, none⟩) n c) (w.alloc (.cells C 5 (C.size, C.size + 1))) := Lib.run_convert_bytes_const w _ _ C n c Try.underlying22 Try.underlying5
theorem const_bytes2 (w : World) (o : Obj) (C : Array Value) (n c : Nat) : (convert 22 22 (.slice (some ⟨w.heap.size + 1, 0, none⟩) n c)).run Try.prog ((w.alloc o).alloc (.cells C 5)) = .ok (.slice (some ⟨w.heap.size + 1, 0, none⟩) n c) ((w.alloc o).alloc (.cells C 5 (C.size, C.size + 1))) := by
  simpa using const_bytes (w.alloc o) C n c
/-- A block whose cells are read as a row of elements of one cell each. -/
theorem C_block {α : Type} (d : Kd α) (h1 : d.sz = 1) {w : World} {g : Nat} {cs : Array Value} {e : Nat} {fr : Nat × Nat} (hb : w.heap[g]? = some (.cells cs e fr)) (xs : List α) (hl : xs.length ≤ 9223372036854775807)
    (hK : ∀ (j : Nat) (x : α), xs[j]? = some x → ∃ v, cs[j]? = some v ∧ d.K w x [v]) : d.C w (some ⟨g, 0, none⟩) xs.length xs := by
  refine ⟨rfl, hl, fun _ => ⟨_, rfl, fun j p hj => ?_⟩⟩
  obtain ⟨v, hv, hk⟩ := hK j p hj
  refine ⟨[v], by rw [h1]; rfl, hk, fun i u hu => ?_⟩
  rcases i with _ | i
  · simp only [List.getElem?_cons_zero, Option.some.injEq] at hu
    subst hu
    rw [h1, Nat.mul_one, Nat.add_zero, add_plain]
    simp [World.cell?, hb, hv]
  · simp at hu
/-- An element of a row of rows of bytes. -/
theorem C_elem {k : IntKind} {e n : Nat} {w : World} {A : Option Addr} {ls : List (List Int)} (h : Kd.C (Kd.slice e (Kd.int k)) w A n ls) (i : Nat) (hi : i < ls.length) :
    ∃ (ad : Addr) (A' : Option Addr) (c' : Nat), A = some ad ∧ w.cell? (ad.add i) = some (.slice A' (ls[i]).length c') ∧ (ls[i]).length ≤ c' ∧ Kd.C (Kd.int k) w A' (ls[i]).length ls[i] := by
  have hn := h.1
  obtain ⟨ad, cs, e, hl, hk, hc⟩ := ReadsRow.get_ h [] (i : Int) (by omega) (by omega)
  obtain ⟨A', c', rfl, hl', hC⟩ := hk
  have := hc 0 _ rfl
  simp only [Int.toNat_natCast, Kd.slice, Nat.mul_one, Nat.add_zero] at this
  have eq : ls.getD ((i : Int).toNat) [] = ls[i] := by simp [hi]
  simp only [Int.toNat_natCast] at eq hl' hC
  rw [eq] at this hl' hC
  exact ⟨ad, A', c', e, this, hl', hC⟩
theorem make_bytes (W : World) (n : Nat) (hn : n ≤ 1000000) : (Instr.makeSlice 22 (.int .i64 0) (.int .i64 (n : Int))).run Try.prog W = .ok (.slice (some ⟨W.heap.size, 0, none⟩) 0 n) (W.alloc (.cells (madeCells #[.int .u8 0] n) 5)) := by
  obtain ⟨i0, hi, hzz⟩ := Option.map_eq_some_iff.1 info5
  simp only [Prod.mk.injEq] at hzz
  obtain ⟨hz0, hz1, hz2⟩ := hzz
  have h := run_make (P := Try.prog) W 22 5 i0 (.int .u8 0) Try.underlying22 hi hz0 .i64 .i64 0 n (by omega) (by omega) (by rw [hz2]; omega) (by omega)
  rw [hz1, show (Value.int .u8 0).cells = #[.int .u8 0] from rfl] at h
  simpa using h
theorem R_made (W : World) (n : Nat) (hn : n ≤ 1000000) : Kd.R (Kd.int .u8) 5 (W.alloc (.cells (madeCells #[.int .u8 0] n) 5)) W.heap.size (fun _ => True) (.slice (some ⟨W.heap.size, 0, none⟩) 0 n) [] :=
  Kd.R_of_own (enc := Value.int .u8) (h1 := fun _ => rfl) (World.ownsRow_made W _ n (Nat.le_refl _) (by unfold maxLen; omega) (by simp [size_madeCells])) (fun _ _ => trivial)
/-- 'T{}', of no elements. -/
theorem R_empty (W : World) (base : Nat) (h : base ≤ W.heap.size) : Kd.R (Kd.int .u8) 5 (W.alloc (.cells #[] 5)) base (fun _ => True) (.slice (some ⟨W.heap.size, 0, none⟩) 0 0) [] :=
  Kd.R_of_own (enc := Value.int .u8) (h1 := fun _ => rfl) (World.ownsRow_made W _ 0 h (by unfold maxLen; omega) (by simp)) (fun _ _ => trivial)
theorem R_lower' {α : Type} {d : Kd α} {e : Nat} {w : World} {base base' : Nat} {ok : Nat → Prop} {v : Value} {xs : List α} (h : d.R e w base ok v xs) (hb : base' ≤ base) : d.R e w base' ok v xs := Kd.R_lower h hb
theorem C_two (W : World) (x y : Int) : Kd.C (Kd.int .u8) (W.alloc (.cells #[.int .u8 x, .int .u8 y] 5)) (some ⟨W.heap.size, 0, none⟩) 2 [x, y] :=
  C_block (Kd.int .u8) rfl (heap_alloc_new W _) [x, y] (by simp) (fun j z hj => by
    rcases j with _ | _ | j
    · simp at hj; subst hj; exact ⟨_, rfl, rfl⟩
    · simp at hj; subst hj; exact ⟨_, rfl, rfl⟩
    · simp at hj)
theorem C_lit (W : World) (xs : List Int) (hl : xs.length ≤ 9223372036854775807) (fr : Nat × Nat) : Kd.C (Kd.int .u8) (W.alloc (.cells ((xs.map (Value.int .u8)).toArray) 5 fr)) (some ⟨W.heap.size, 0, none⟩) xs.length xs :=
  C_block (Kd.int .u8) rfl (heap_alloc_new W _) xs hl (fun j z hj => ⟨.int .u8 z, by simp [hj], rfl⟩)
/-- Rows of bytes side by side: the arguments of a call with several parts. -/
theorem C_row1 {W : World} {A1 : Option Addr} {n1 c1 : Nat} {l1 : List Int} (h1 : Kd.C (Kd.int .u8) W A1 n1 l1) (k1 : n1 ≤ c1) :
    Kd.C (Kd.slice 5 (Kd.int .u8)) (W.alloc (.cells #[.slice A1 n1 c1] 22)) (some ⟨W.heap.size, 0, none⟩) 1 [l1] := by
  have e1 := h1.1
  subst e1
  exact C_block (Kd.slice 5 (Kd.int .u8)) rfl (heap_alloc_new W _) [l1] (by simp) (fun j z hj => by
    rcases j with _ | j
    · simp at hj; subst hj; exact ⟨_, rfl, A1, c1, rfl, k1, Kd.C_alloc h1 _⟩
    · simp at hj)
theorem C_row2 {W : World} {A1 A2 : Option Addr} {n1 n2 c1 c2 : Nat} {l1 l2 : List Int} (h1 : Kd.C (Kd.int .u8) W A1 n1 l1) (k1 : n1 ≤ c1) (h2 : Kd.C (Kd.int .u8) W A2 n2 l2) (k2 : n2 ≤ c2) :
    Kd.C (Kd.slice 5 (Kd.int .u8)) (W.alloc (.cells #[.slice A1 n1 c1, .slice A2 n2 c2] 22)) (some ⟨W.heap.size, 0, none⟩) 2 [l1, l2] := by
  have e1 := h1.1
  have e2 := h2.1
  subst e1
  subst e2
  exact C_block (Kd.slice 5 (Kd.int .u8)) rfl (heap_alloc_new W _) [l1, l2] (by simp) (fun j z hj => by
    rcases j with _ | _ | j
    · simp at hj; subst hj; exact ⟨_, rfl, A1, c1, rfl, k1, Kd.C_alloc h1 _⟩
    · simp at hj; subst hj; exact ⟨_, rfl, A2, c2, rfl, k2, Kd.C_alloc h2 _⟩
    · simp at hj)

-- AUX M
-- Words of this session: what a call may change (a set of blocks), and what stays.
/-- Only the blocks of S have changed; blocks were added. -/
structure Only (w w' : World) (S : Nat → Prop) : Prop where
  os : w'.os = w.os
  tape : w'.tape = w.tape
  output : w'.output = w.output
  size : w.heap.size ≤ w'.heap.size
  block : ∀ i, i < w.heap.size → ¬ S i → w'.heap[i]? = w.heap[i]?
/-- A set of blocks, and those that were added. -/
def Grow (S : Nat → Prop) (w w' : World) : Nat → Prop := fun i => S i ∨ (w.heap.size ≤ i ∧ i < w'.heap.size)
theorem Only.refl (w : World) (S : Nat → Prop) : Only w w S := ⟨rfl, rfl, rfl, Nat.le_refl _, fun _ _ _ => rfl⟩
theorem Only.mono {w w' : World} {S T : Nat → Prop} (h : Only w w' S) (hS : ∀ i, S i → T i) : Only w w' T := ⟨h.os, h.tape, h.output, h.size, fun i hi hn => h.block i hi (fun hs => hn (hS i hs))⟩
theorem Only.then_ {w w1 w2 : World} {S T : Nat → Prop} (h : Only w w1 S) (k : Only w1 w2 T) (hT : ∀ i, T i → S i ∨ w.heap.size ≤ i) : Only w w2 S :=
  ⟨k.os.trans h.os, k.tape.trans h.tape, k.output.trans h.output, Nat.le_trans h.size k.size, fun i hi hn => (k.block i (Nat.lt_of_lt_of_le hi h.size) (fun ht => (hT i ht).elim hn (fun hge => by omega))).trans (h.block i hi hn)⟩
theorem Only.trans {w w1 w2 : World} {S : Nat → Prop} (h : Only w w1 S) (k : Only w1 w2 (Grow S w w1)) : Only w w2 S := h.then_ k (fun _ hi => hi.imp id (fun h => h.1))
theorem Only.same {w w1 w2 : World} {S : Nat → Prop} (h : Only w w1 S) (k : Only w1 w2 S) : Only w w2 S := h.then_ k (fun _ hi => .inl hi)
theorem Only.of_below {w w' : World} (h : Below w.heap.size w w') (S : Nat → Prop) : Only w w' S := ⟨h.os, h.tape, h.output, h.size, fun i hi _ => h.block i hi⟩
theorem Only.below_ {w w1 w2 : World} {S : Nat → Prop} (h : Only w w1 S) (k : Below w1.heap.size w1 w2) : Only w w2 S := h.then_ (Only.of_below k (fun _ => False)) (fun _ hf => hf.elim)
theorem Only.below {w w' : World} {S : Nat → Prop} {B : Nat} (h : Only w w' S) (hS : ∀ i, S i → B ≤ i) (hB : B ≤ w.heap.size) : Below B w w' := ⟨h.os, h.tape, h.output, h.size, fun i hi => h.block i (by omega) (fun hs => by have := hS i hs; omega)⟩
theorem Only.of_grown {w w' : World} {row : Option Nat} {S : Nat → Prop} (hg : w.grownBy w' row) (hS : ∀ k, row = some k → S k) : Only w w' S := ⟨hg.os, hg.tape, hg.output, hg.size, fun i hi hn => hg.block i hi (fun h => hn (hS i h.symm))⟩
theorem Only.setCell {w w' : World} {S : Nat → Prop} (h : Only w w' S) {p : Addr} (hp : S p.block ∨ w.heap.size ≤ p.block) (u : Value) : Only w (w'.setCell p u) S :=
  ⟨h.os, h.tape, h.output, by have := h.size; simp only [World.setCell, Array.size_modify]; exact this, fun i hi hn => (Below.heap_setCell w' p u i (fun e => by subst e; exact hp.elim hn (fun hge => by omega))).trans (h.block i hi hn)⟩
theorem Only.alloc {w w' : World} {S : Nat → Prop} (h : Only w w' S) (o : Obj) : Only w (w'.alloc o) S := h.below_ (below_alloc (Below.refl _ _) o)
theorem Only.drewN {w w' : World} {S : Nat → Prop} (h : Only w w' S) (n : Nat) : Only w (w'.drewN n) S := h.below_ (pw_below_drewN (Below.refl _ _) n)
theorem Only.drew {w w' : World} {S : Nat → Prop} (h : Only w w' S) : Only w w'.drew S := h.below_ (below_drew (Below.refl _ _))
theorem Only.same_block {w w' : World} {S : Nat → Prop} (h : Only w w' S) {i : Nat} {o : Obj} (hb : w.heap[i]? = some o) (hn : ¬ S i) : w'.heap[i]? = some o := by
  have hi : i < w.heap.size := by
    rcases Nat.lt_or_ge i w.heap.size with h | h
    · exact h
    · rw [Array.getElem?_eq_none h] at hb; cases hb
  exact (h.block i hi hn).trans hb
theorem blk_size {w : World} {i : Nat} {o : Obj} (hb : w.heap[i]? = some o) : i < w.heap.size := by
  rcases Nat.lt_or_ge i w.heap.size with h | h
  · exact h
  · rw [Array.getElem?_eq_none h] at hb; cases hb
theorem Grow.old {S : Nat → Prop} {w w' : World} {i : Nat} (h : S i) : Grow S w w' i := .inl h
theorem Grow.trans {S : Nat → Prop} {w w1 w2 : World} (h1 : w.heap.size ≤ w1.heap.size) (h2 : w1.heap.size ≤ w2.heap.size) : ∀ i, Grow (Grow S w w1) w1 w2 i → Grow S w w2 i := by
  rintro i ((h | h) | h)
  · exact .inl h
  · exact .inr ⟨h.1, by omega⟩
  · exact .inr ⟨by omega, h.2⟩
theorem setCell_here {w : World} {p : Nat} {cs : Array Value} {t : Nat} {fr : Nat × Nat} (hb : w.heap[p]? = some (.cells cs t fr)) (j : Nat) (u : Value) : (w.setCell ⟨p, j, none⟩ u).heap[p]? = some (.cells (cs.setIfInBounds j u) t fr) := by
  simp [World.setCell, Array.getElem?_modify, hb]
theorem cell_of {w : World} {p : Nat} {cs : Array Value} {t : Nat} {fr : Nat × Nat} (hb : w.heap[p]? = some (.cells cs t fr)) (j : Nat) : w.cell? ⟨p, j, none⟩ = cs[j]? := by simp [World.cell?, hb]
theorem frozen_of {w : World} {p : Nat} {cs : Array Value} {t : Nat} (hb : w.heap[p]? = some (.cells cs t (0, 0))) (j : Nat) : w.frozen? ⟨p, j, none⟩ = false := by simp [World.frozen?, hb]
/-- A row of numbers that is read, in blocks of S. -/
structure Rk (k : IntKind) (w : World) (S : Nat → Prop) (A : Option Addr) (l : List Int) : Prop where
  row : Kd.C (Kd.int k) w A l.length l
  blk : 0 < l.length → ∀ a, A = some a → S a.block
abbrev Rb := Rk .u8
theorem C_cells {k : IntKind} {w : World} {A : Option Addr} {l : List Int} (h : Kd.C (Kd.int k) w A l.length l) (hl : 0 < l.length) : ∃ ad, A = some ad ∧ ∀ j, j < l.length → w.cell? (ad.add j) = some (.int k (rd l j)) := by
  obtain ⟨ad, e, _⟩ := Kd.at_int h 0 (by omega) (by omega)
  subst e
  exact ⟨ad, rfl, fun j hj => by have := Kd.foot_int h (j : Int) (by omega) (by omega); simpa using this⟩
theorem C_mk {k : IntKind} {w : World} {A : Option Addr} {l : List Int} (hm : l.length ≤ 9223372036854775807) (h : 0 < l.length → ∃ ad, A = some ad ∧ ∀ j, j < l.length → w.cell? (ad.add j) = some (.int k (rd l j))) : Kd.C (Kd.int k) w A l.length l := by
  refine ⟨rfl, hm, fun hp => ?_⟩
  obtain ⟨ad, e, hc⟩ := h hp
  refine ⟨ad, e, fun j p hj => ?_⟩
  have hlt : j < l.length := by
    rcases Nat.lt_or_ge j l.length with h | h
    · exact h
    · rw [List.getElem?_eq_none h] at hj; cases hj
  refine ⟨[.int k p], rfl, rfl, fun i u hu => ?_⟩
  rcases i with _ | i
  · simp only [List.getElem?_cons_zero, Option.some.injEq] at hu
    subst hu
    have := hc j hlt
    have e2 : rd l (j : Int) = p := by simp [rd, hj]
    rw [e2] at this
    simpa [Kd.int, Kd.scalar] using this
  · simp at hu
/-- What is read of cells stays where the cells stay. -/
theorem C_cells_mono {k : IntKind} {w w' : World} {A : Option Addr} {l : List Int} (h : Kd.C (Kd.int k) w A l.length l) (hc : ∀ ad j, A = some ad → j < l.length → w'.cell? (ad.add j) = w.cell? (ad.add j)) : Kd.C (Kd.int k) w' A l.length l :=
  C_mk h.2.1 (fun hp => by
    obtain ⟨ad, e, hx⟩ := C_cells h hp
    exact ⟨ad, e, fun j hj => (hc ad j e hj).trans (hx j hj)⟩)
theorem cell_same {w w' : World} {b : Nat} (h : w'.heap[b]? = w.heap[b]?) (a : Addr) (ha : a.block = b) : w'.cell? a = w.cell? a := by
  simp [World.cell?, ha, h]
theorem add_blk (a : Addr) (j : Nat) : (a.add j).block = a.block := add_block a j
theorem Rk.mono {k : IntKind} {w : World} {S T : Nat → Prop} {A : Option Addr} {l : List Int} (h : Rk k w S A l) (hS : ∀ i, S i → T i) : Rk k w T A l := ⟨h.row, fun hp a ha => hS _ (h.blk hp a ha)⟩
theorem Rk.lt {k : IntKind} {w : World} {S : Nat → Prop} {A : Option Addr} {l : List Int} (h : Rk k w S A l) (hl : 0 < l.length) : ∀ a, A = some a → a.block < w.heap.size := by
  intro a ha
  obtain ⟨ad, e, hx⟩ := C_cells h.row hl
  rw [ha] at e
  cases e
  have := World.block_lt_of_cell? w _ (hx 0 hl)
  rwa [add_blk] at this
theorem Rk.only {k : IntKind} {w w' : World} {S T : Nat → Prop} {A : Option Addr} {l : List Int} (h : Rk k w S A l) (o : Only w w' T) (hd : ∀ i, S i → ¬ T i) : Rk k w' S A l :=
  ⟨C_cells_mono h.row (fun ad j e hj => cell_same (o.block _ (h.lt (by omega) ad e) (hd _ (h.blk (by omega) ad e))) _ (add_blk ad j)), h.blk⟩
theorem Rk.below {k : IntKind} {w w' : World} {S : Nat → Prop} {A : Option Addr} {l : List Int} (h : Rk k w S A l) (o : Below w.heap.size w w') : Rk k w' S A l := h.only (Only.of_below o (fun _ => False)) (fun _ _ h => h)
theorem Rk.old {k : IntKind} {w0 w : World} {A : Option Addr} {l : List Int} (h : Rk k w0 (fun i => i < w0.heap.size) A l) (o : Below w0.heap.size w0 w) : Rk k w (fun i => i < w0.heap.size) A l :=
  ⟨Kd.C_below h.row o, h.blk⟩
theorem Rk.of_C {k : IntKind} {w : World} {A : Option Addr} {l : List Int} (h : Kd.C (Kd.int k) w A l.length l) : Rk k w (fun i => i < w.heap.size) A l :=
  ⟨h, fun hp a ha => by
    obtain ⟨ad, e, hx⟩ := C_cells h hp
    rw [ha] at e
    cases e
    have := World.block_lt_of_cell? w _ (hx 0 hp)
    rwa [add_blk] at this⟩
/-- An own row: its block is the row's. -/
theorem Rk.of_R {w : World} {B n c : Nat} {ok : Nat → Prop} {A : Option Addr} {l : List Int} (h : Kd.R (Kd.int .u8) 5 w B ok (.slice A n c) l) : Rb w ok A l :=
  ⟨(Kd.R_reads' h).2.2, fun _ a ha => h.1 a.block (by subst ha; rfl)⟩
theorem R_only {α : Type} {d : Kd α} {e : Nat} {w w' : World} {base : Nat} {ok T : Nat → Prop} {v : Value} {xs : List α} (h : d.R e w base ok v xs) (k : Only w w' T) (hd : ∀ i, ok i → ¬ T i) : d.R e w' base ok v xs := Kd.R_step h (fun i ho hi => k.block i hi (hd i ho))
theorem R_made_in {α : Type} {d : Kd α} {e : Nat} {w w' : World} {ok : Nat → Prop} {v : Value} {xs : List α} (h : d.R e w' w.heap.size ok v xs) : d.R e w' w.heap.size (fun i => w.heap.size ≤ i ∧ i < w'.heap.size) v xs := Kd.R_mono (Kd.R_bound h) (fun _ hk => ⟨hk.2.1, hk.2.2.1⟩)
theorem add_zero_ (a : Addr) : a.add 0 = a := by
  obtain ⟨b, o, s⟩ := a
  unfold Addr.add
  split <;> simp_all
/-- append(v, x), x of several cells, as an equation of the run: for regions that draw their order. -/
theorem R_append_run {α : Type} (d : Kd α) {P : Program} {w0 W : World} (base : Nat) (t e ty : TypeId) (z : Value) (bytes : Nat)
    (ht : P.underlying t = some (.slice e)) (hinfo : (P.info? e).map (fun i => (i.zero, i.size, i.bytes)) = some (some z, d.sz, bytes)) (hz : z.cells.size = d.sz) (hs0 : 0 < d.sz) (hb0 : 0 < bytes)
    (v : Value) (xs : List α) (p : α) (cs : List Value) (ok okp : Nat → Prop) (hp : d.M W base okp p cs) (hokp : ∀ k, okp k → ok k ∧ some k ≠ v.ownBlock) (hfresh : ∀ k, W.heap.size ≤ k → ok k)
    (HO : d.R e W base ok v xs) (HB : Below base w0 W) (hbase : base ≤ W.heap.size) (hl : (xs.length + 1) * bytes ≤ 140737488355328) :
    ∃ v1 w1, (Builtin.append_ #[t, t] ty #[v, .slice (some ⟨W.heap.size, 0, none⟩) 1 1]).run P (W.alloc (.cells cs.toArray e)) = .ok v1 w1 ∧ d.R e w1 base ok v1 (xs ++ [p]) ∧ Below base w0 w1 ∧ W.grownBy w1 v.ownBlock ∧ (v1.ownBlock = v.ownBlock ∨ ∃ b, v1.ownBlock = some b ∧ W.heap.size ≤ b) := by
  obtain ⟨h0, inner, hown, hr⟩ := HO
  obtain ⟨i0, hi, hzz⟩ := Option.map_eq_some_iff.1 hinfo
  simp only [Prod.mk.injEq] at hzz
  obtain ⟨hz0, hz1, hz2⟩ := hzz
  have hlen : xs.length + 1 ≤ 140737488355328 := Nat.le_trans (Nat.le_mul_of_pos_right _ hb0) hl
  have hcl : cs.length = d.sz := d.K_len (d.K_of_M hp)
  obtain ⟨v1, w1, hrun, hown1, hg, -, hat⟩ := run_append_own_at (P := P) (W.alloc (.cells cs.toArray e)) base t ty e i0 z d.sz bytes ht hi hz0 hz1 hz2 hz hs0 v xs.length inner (hown.alloc _) ⟨W.heap.size, 0, none⟩ 1 1 cs (by rw [hcl]; simp)
    (by simpa using World.news_of_block (cs := cs.toArray) (t := e) (fr := (0, 0)) (heap_alloc_new W (.cells cs.toArray e))) (d.K_one (d.K_of_M hp)) (by simp only [maxLen]; omega) hl (by simp; omega)
  have hg2 := World.grownBy.trans (World.grownBy_alloc W (.cells cs.toArray e) _) hg
  have hat2 : v1.ownBlock = v.ownBlock ∨ ∃ b, v1.ownBlock = some b ∧ W.heap.size ≤ b := hat.imp id (fun h => ⟨_, h, by simp⟩)
  exact ⟨v1, w1, hrun, Kd.R_appended h0 hr hp hokp hfresh hown1 hg2 hat2, (HB.alloc hbase _).grown hg (by simp; omega) (own_base hown), hg2, hat2⟩
theorem S_append_run {α : Type} (d : Kd α) {P : Program} {w0 W : World} (base : Nat) (t e ty : TypeId) (z : Value) (bytes : Nat)
    (ht : P.underlying t = some (.slice e)) (hinfo : (P.info? e).map (fun i => (i.zero, i.size, i.bytes)) = some (some z, d.sz, bytes)) (hz : z.cells.size = d.sz) (hs0 : 0 < d.sz) (hb0 : 0 < bytes)
    (v : Value) (xs : List α) (p : α) (cs : List Value) (ok okp : Nat → Prop) (hp : d.M W base okp p cs) (hokp : ∀ k, okp k → ok k ∧ some k ≠ v.ownBlock) (hfresh : ∀ k, W.heap.size ≤ k → ok k)
    (HO : Kd.S d e W base (fun k => ok k ∧ ¬ okp k) v xs) (HB : Below base w0 W) (hbase : base ≤ W.heap.size) (hl : (xs.length + 1) * bytes ≤ 140737488355328) :
    ∃ v1 w1, (Builtin.append_ #[t, t] ty #[v, .slice (some ⟨W.heap.size, 0, none⟩) 1 1]).run P (W.alloc (.cells cs.toArray e)) = .ok v1 w1 ∧ Kd.S d e w1 base ok v1 (xs ++ [p]) ∧ Below base w0 w1 ∧ W.grownBy w1 v.ownBlock ∧ (v1.ownBlock = v.ownBlock ∨ ∃ b, v1.ownBlock = some b ∧ W.heap.size ≤ b) := by
  obtain ⟨f, hf, hR⟩ := Kd.S_tag HO xs.length okp (fun _ hk h2 => h2.2 hk)
  obtain ⟨v1, w1, hrun, hr, h⟩ := R_append_run (Kd.tag f d) (w0 := w0) base t e ty z bytes ht hinfo hz hs0 hb0 v xs.zipIdx (p, xs.length) cs ok okp (d.M_mono (fun k hk => ⟨hk, hf k hk⟩) hp) hokp hfresh (Kd.R_mono hR (fun _ hk => hk.1)) HB hbase (by rw [List.length_zipIdx]; exact hl)
  rw [← Kd.zip_snoc] at hr
  exact ⟨v1, w1, hrun, ⟨f, hr⟩, h⟩

-- AUX X
-- Words of this session: what is known of memory, part by part ('Cx'): parts that share no block, all made since a world w0; what was there at w0 is as it was.
/-- How a thing lies in memory: behind a value v, in blocks of S alone. -/
structure Repr (α : Type) where
  R : World → (Nat → Prop) → Value → α → Prop
  st : ∀ {w w' : World} {S T : Nat → Prop} {v : Value} {x : α}, R w S v x → Only w w' T → (∀ i, S i → ¬ T i) → R w' S v x
/-- A part of memory: a block known whole; a thing. -/
inductive Asr : Type 1 where
  | blk (b : Nat) (o : Obj)
  | own {α : Type} (R : Repr α) (v : Value) (x : α)
def Asr.P (w : World) (S : Nat → Prop) : Asr → Prop
  | .blk b o => S b ∧ w.heap[b]? = some o
  | .own R v x => R.R w S v x
theorem Asr.only {a : Asr} {w w' : World} {S T : Nat → Prop} (h : a.P w S) (k : Only w w' T) (hd : ∀ i, S i → ¬ T i) : a.P w' S := by
  cases a with
  | blk b o => exact ⟨h.1, k.same_block h.2 (hd _ h.1)⟩
  | own R v x => exact R.st h k hd
def Sep (w : World) : List Asr → (Nat → Prop) → Prop
  | [], _ => True
  | a :: l, T => ∃ S : Nat → Prop, a.P w S ∧ (∀ i, S i → T i) ∧ Sep w l (fun i => T i ∧ ¬ S i)
theorem Sep.mono {w : World} : ∀ {l : List Asr} {T U : Nat → Prop}, Sep w l T → (∀ i, T i → U i) → Sep w l U
  | [], _, _, _, _ => trivial
  | _ :: _, _, _, ⟨S, h, hs, hr⟩, hu => ⟨S, h, fun i hi => hu i (hs i hi), hr.mono (fun i hi => ⟨hu i hi.1, hi.2⟩)⟩
theorem Sep.only {w w' : World} {V : Nat → Prop} (k : Only w w' V) : ∀ {l : List Asr} {T : Nat → Prop}, Sep w l T → (∀ i, T i → ¬ V i) → Sep w' l T
  | [], _, _, _ => trivial
  | _ :: _, _, ⟨S, h, hs, hr⟩, hd => ⟨S, Asr.only h k (fun i hi => hd i (hs i hi)), hs, Sep.only k hr (fun i hi => hd i hi.1)⟩
/-- a is one of m; r are the others. -/
inductive At : List Asr → Asr → List Asr → Prop where
  | here {a : Asr} {l : List Asr} : At (a :: l) a l
  | there {a b : Asr} {l r : List Asr} (h : At l a r) : At (b :: l) a (b :: r)
theorem Sep.find {w : World} {m : List Asr} {a : Asr} {r : List Asr} (h : At m a r) : ∀ {T : Nat → Prop}, Sep w m T → Sep w (a :: r) T := by
  induction h with
  | here => exact fun h => h
  | there _ ih =>
    rintro T ⟨S, hb, hs, hr⟩
    obtain ⟨S2, ha, hs2, hr2⟩ := ih hr
    exact ⟨S2, ha, fun i hi => (hs2 i hi).1, S, hb, fun i hi => ⟨hs i hi, fun h2 => (hs2 i h2).2 hi⟩, hr2.mono (fun i hi => ⟨⟨hi.1.1, hi.2⟩, hi.1.2⟩)⟩
theorem Sep.append {w : World} {T : Nat → Prop} : ∀ {n m : List Asr} {U : Nat → Prop}, Sep w n U → Sep w m T → (∀ i, U i → ¬ T i) → Sep w (n ++ m) (fun i => U i ∨ T i)
  | [], _, _, _, hm, _ => hm.mono (fun _ h => .inr h)
  | a :: n, m, U, ⟨S, ha, hs, hr⟩, hm, hd => ⟨S, ha, fun i hi => .inl (hs i hi), (Sep.append hr hm (fun i hi => hd i hi.1)).mono (fun i hi => by
      rcases hi with hi | hi
      · exact ⟨.inl hi.1, hi.2⟩
      · exact ⟨.inr hi, fun h2 => hd i (hs i h2) hi⟩)⟩
theorem Sep.split {w : World} : ∀ {n m : List Asr} {T : Nat → Prop}, Sep w (n ++ m) T → ∃ U V : Nat → Prop, Sep w n U ∧ Sep w m V ∧ (∀ i, U i → T i) ∧ (∀ i, V i → T i) ∧ ∀ i, U i → ¬ V i
  | [], m, T, h => ⟨fun _ => False, T, trivial, h, fun _ h => h.elim, fun _ h => h, fun _ h => h.elim⟩
  | a :: n, m, T, ⟨S, ha, hs, hr⟩ => by
    obtain ⟨U, V, h1, h2, h3, h4, h5⟩ := Sep.split hr
    refine ⟨fun i => S i ∨ U i, V, ⟨S, ha, fun _ h => .inl h, h1.mono (fun i hi => ⟨.inr hi, (h3 i hi).2⟩)⟩, h2, fun i hi => hi.elim (hs i) (fun h => (h3 i h).1), fun i hi => (h4 i hi).1, fun i hi hv => ?_⟩
    rcases hi with hi | hi
    · exact (h4 i hv).2 hi
    · exact h5 i hi hv
/-- Since w0 (of B blocks) nothing of its blocks has changed; the parts m were made since. -/
structure Cx (B : Nat) (w0 w : World) (m : List Asr) : Prop where
  bel : Below B w0 w
  le : B ≤ w.heap.size
  sep : Sep w m (fun i => B ≤ i ∧ i < w.heap.size)
/-- The same with the heap's size written out: to read a world that stands as it was made. -/
structure CxS (B : Nat) (w0 w : World) (n : Nat) (m : List Asr) : Prop where
  cx : Cx B w0 w m
  sz : w.heap.size = n
theorem Cx.toS {B : Nat} {w0 w : World} {m : List Asr} (h : Cx B w0 w m) : CxS B w0 w w.heap.size m := ⟨h, rfl⟩
theorem Cx.start (w : World) : Cx w.heap.size w w [] := ⟨Below.refl _ _, Nat.le_refl _, trivial⟩
theorem Cx.below {B : Nat} {w0 w w' : World} {m : List Asr} (h : Cx B w0 w m) (k : Below w.heap.size w w') : Cx B w0 w' m :=
  ⟨below_then h.bel h.le k, by have := k.size; have := h.le; omega, (h.sep.only (Only.of_below k (fun _ => False)) (fun _ _ h => h)).mono (fun i hi => ⟨hi.1, by have := k.size; omega⟩)⟩
/-- A call that made parts of its own. -/
theorem Cx.join {B : Nat} {w0 w w' : World} {m n : List Asr} (h : Cx B w0 w m) (k : Cx w.heap.size w w' n) : Cx B w0 w' (n ++ m) :=
  ⟨below_then h.bel h.le k.bel, by have := k.le; have := h.le; omega, (k.sep.append (h.sep.only (Only.of_below k.bel (fun _ => False)) (fun _ _ h => h)) (fun i hi h2 => by have := hi.1; have := h2.2; omega)).mono (fun i hi => by
    have h1 := h.le
    have h2 := k.le
    rcases hi with hi | hi
    · exact ⟨by have := hi.1; omega, hi.2⟩
    · exact ⟨hi.1, by have := hi.2; omega⟩)⟩
theorem Cx.find {B : Nat} {w0 w : World} {m r : List Asr} {a : Asr} (h : Cx B w0 w m) (k : At m a r) : Cx B w0 w (a :: r) := ⟨h.bel, h.le, h.sep.find k⟩
theorem Cx.tail {B : Nat} {w0 w : World} {m : List Asr} {a : Asr} (h : Cx B w0 w (a :: m)) : Cx B w0 w m := by
  obtain ⟨S, _, _, hr⟩ := h.sep
  exact ⟨h.bel, h.le, hr.mono (fun _ hi => hi.1)⟩
theorem Cx.drop {B : Nat} {w0 w : World} {m r : List Asr} {a : Asr} (h : Cx B w0 w m) (k : At m a r) : Cx B w0 w r := (h.find k).tail
/-- The part at the front is taken out, and may be put back changed. -/
theorem Cx.open_ {B : Nat} {w0 w : World} {m : List Asr} {a : Asr} (h : Cx B w0 w (a :: m)) :
    ∃ S : Nat → Prop, a.P w S ∧ (∀ i, S i → B ≤ i ∧ i < w.heap.size) ∧ Sep w m (fun i => (B ≤ i ∧ i < w.heap.size) ∧ ¬ S i) ∧ ∀ w' n, Only w w' S → Sep w' n (Grow S w w') → Cx B w0 w' (n ++ m) := by
  obtain ⟨S, ha, hs, hr⟩ := h.sep
  have hle := h.le
  refine ⟨S, ha, hs, hr, fun w' n ho hn => ?_⟩
  have hsz := ho.size
  refine ⟨h.bel.trans (ho.below (B := B) (fun i hi => (hs i hi).1) h.le), by omega, ?_⟩
  refine (hn.append (hr.only ho (fun i hi => hi.2)) (fun i hi h2 => ?_)).mono (fun i hi => ?_)
  · rcases hi with hi | hi
    · exact h2.2 hi
    · have := h2.1.2; have := hi.1; omega
  · rcases hi with (hi | hi) | hi
    · have := hs i hi; omega
    · omega
    · have := hi.1; omega
theorem Cx.ret {B : Nat} {w0 w : World} {m : List Asr} (h : Cx B w0 w m) : Below B w0 w := h.bel
theorem Cx.blk {B : Nat} {w0 w : World} {m r : List Asr} {b : Nat} {o : Obj} (h : Cx B w0 w m) (k : At m (.blk b o) r) : w.heap[b]? = some o := by
  obtain ⟨S, ha, _⟩ := (h.find k).sep
  exact ha.2
theorem Cx.has {B : Nat} {w0 w : World} {m r : List Asr} {α : Type} {R : Repr α} {v : Value} {x : α} (h : Cx B w0 w m) (k : At m (.own R v x) r) : ∃ S : Nat → Prop, R.R w S v x ∧ ∀ i, S i → B ≤ i ∧ i < w.heap.size := by
  obtain ⟨S, ha, hs, _⟩ := (h.find k).sep
  exact ⟨S, ha, hs⟩
/-- Two parts at once. -/
theorem Cx.has2 {B : Nat} {w0 w : World} {m r r2 : List Asr} {α β : Type} {R : Repr α} {v : Value} {x : α} {R2 : Repr β} {v2 : Value} {x2 : β} (h : Cx B w0 w m) (k : At m (.own R v x) r) (k2 : At r (.own R2 v2 x2) r2) :
    ∃ S T : Nat → Prop, R.R w S v x ∧ R2.R w T v2 x2 ∧ (∀ i, S i → B ≤ i ∧ i < w.heap.size) ∧ (∀ i, T i → B ≤ i ∧ i < w.heap.size) ∧ ∀ i, T i → ¬ S i := by
  obtain ⟨S, ha, hs, hr⟩ := (h.find k).sep
  obtain ⟨T, hb, ht, _⟩ := hr.find k2
  exact ⟨S, T, ha, hb, hs, fun i hi => (ht i hi).1, fun i hi => (ht i hi).2⟩
theorem CxS.drewN {B : Nat} {w0 w : World} {n : Nat} {m : List Asr} (h : CxS B w0 w n m) (k : Nat) : CxS B w0 (w.drewN k) n m := ⟨h.cx.below (pw_below_drewN (Below.refl _ _) k), h.sz⟩
theorem CxS.drew {B : Nat} {w0 w : World} {n : Nat} {m : List Asr} (h : CxS B w0 w n m) : CxS B w0 w.drew n m := ⟨h.cx.below (below_drew (Below.refl _ _)), h.sz⟩
theorem CxS.alloc {B : Nat} {w0 w : World} {n : Nat} {m : List Asr} (h : CxS B w0 w n m) (o : Obj) : CxS B w0 (w.alloc o) (n + 1) (.blk n o :: m) := by
  obtain ⟨h, rfl⟩ := h
  exact ⟨h.join (n := [.blk w.heap.size o]) ⟨below_alloc (Below.refl _ _) o, by simp, ⟨fun i => i = w.heap.size, ⟨rfl, blk_new w o⟩, fun i hi => by subst hi; simp, trivial⟩⟩, by simp⟩
theorem CxS.set {B : Nat} {w0 w : World} {n : Nat} {m r : List Asr} {b t : Nat} {cs : Array Value} (h : CxS B w0 w n m) (k : At m (.blk b (.cells cs t (0, 0))) r) (j : Nat) (u : Value) :
    CxS B w0 (w.setCell ⟨b, j, none⟩ u) n (.blk b (.cells (cs.setIfInBounds j u) t (0, 0)) :: r) := by
  obtain ⟨h, rfl⟩ := h
  have hsz : (w.setCell ⟨b, j, none⟩ u).heap.size = w.heap.size := by simp [World.setCell]
  obtain ⟨S, ha, hs, hr, hc⟩ := (h.find k).open_
  exact ⟨hc _ [.blk b (.cells (cs.setIfInBounds j u) t (0, 0))] ((Only.refl w S).setCell (p := ⟨b, j, none⟩) (.inl ha.1) u) ⟨fun i => i = b, ⟨rfl, setCell_here ha.2 j u⟩, fun i hi => .inl (by subst hi; exact ha.1), trivial⟩, hsz⟩
/-- A cell of a block that doesn't stand whole: a part 'own' keeps what it is. -/
theorem Cx.put {B : Nat} {w0 w w' : World} {m r n : List Asr} {a : Asr} (h : Cx B w0 w m) (k : At m a r) (f : ∀ S : Nat → Prop, a.P w S → Only w w' S ∧ Sep w' n (Grow S w w')) : Cx B w0 w' (n ++ r) := by
  obtain ⟨S, ha, hs, hr, hc⟩ := (h.find k).open_
  obtain ⟨h1, h2⟩ := f S ha
  exact hc w' n h1 h2
theorem Cx.atCall {B : Nat} {w0 T : World} {n : Nat} {m : List Asr} {P : Program} {f : FuncId} {args : Array Value} {Q : Ending → World → Prop} (h : CxS B w0 T n m) (k : Cx B w0 T m → Calls P f args T Q) : Calls P f args T Q := k h.cx
theorem Cx.atCode {B : Nat} {w0 T : World} {n : Nat} {m : List Asr} {P : Program} {c : Code} {Q : Exit → Act → World → Prop} {a : Act} (h : CxS B w0 T n m) (k : Cx B w0 T m → Code.wp P c Q a T) : Code.wp P c Q a T := k h.cx
/-- The cells of a block known whole. -/
def cellsAre (w : World) (b : Nat) : List Value → Nat → Prop
  | [], _ => True
  | v :: l, j => w.cell? ⟨b, j, none⟩ = some v ∧ w.frozen? ⟨b, j, none⟩ = false ∧ cellsAre w b l (j + 1)
theorem cellsAre_of {w : World} {b t : Nat} {cs : Array Value} (h : w.heap[b]? = some (.cells cs t (0, 0))) : ∀ (l : List Value) (j : Nat), (∀ i v, l[i]? = some v → cs[j + i]? = some v) → cellsAre w b l j
  | [], _, _ => trivial
  | v :: l, j, hl => ⟨(cell_of h j).trans (hl 0 v rfl), frozen_of h j, cellsAre_of h l (j + 1) (fun i u hu => by rw [show j + 1 + i = j + (i + 1) by omega]; exact hl (i + 1) u hu)⟩
/-- What the walk reads: the cells of the blocks that are known whole. -/
def blkFacts (w : World) (b : Nat) : Obj → Prop
  | .cells cs _ fr => b < w.heap.size ∧ (fr = (0, 0) → cellsAre w b cs.toList 0)
  | _ => b < w.heap.size
def Asr.facts (w : World) : Asr → Prop
  | .blk b o => blkFacts w b o
  | .own _ _ _ => True
def factsOf (w : World) : List Asr → Prop
  | [] => True
  | a :: l => a.facts w ∧ factsOf w l
theorem Asr.facts_of {w : World} {S : Nat → Prop} {a : Asr} (h : a.P w S) : a.facts w := by
  rcases a with ⟨b, o⟩ | ⟨R, v, x⟩
  · rcases o with ⟨cs, t, fr⟩ | _ | _ | _ | _ | _ | _ | _ | _ | _ | _ | _
    · exact ⟨blk_lt h.2, fun e => by subst e; exact cellsAre_of h.2 _ 0 (fun i v hv => by simpa using hv)⟩
    all_goals exact blk_lt h.2
  · trivial
theorem Sep.facts {w : World} : ∀ {m : List Asr} {T : Nat → Prop}, Sep w m T → factsOf w m
  | [], _, _ => trivial
  | _ :: _, _, ⟨_, ha, _, hr⟩ => ⟨Asr.facts_of ha, Sep.facts hr⟩
theorem Cx.facts {B : Nat} {w0 w : World} {m : List Asr} (h : Cx B w0 w m) : factsOf w m := h.sep.facts
theorem Only.setRow_ {w : World} {S : Nat → Prop} {g : Nat} (hg : S g) (cs : Array Value) : Only w (w.setRow g cs) S :=
  ⟨rfl, rfl, rfl, by simp [World.setRow], fun k _ hk => setRow_other w g k cs (fun e => by subst e; exact hk hg)⟩
theorem CxS.setRow {B : Nat} {w0 w : World} {n : Nat} {m r : List Asr} {g t : Nat} {cs : Array Value} (h : CxS B w0 w n m) (k : At m (.blk g (.cells cs t (0, 0))) r) (cs' : Array Value) :
    CxS B w0 (w.setRow g cs') n (.blk g (.cells cs' t (0, 0)) :: r) := by
  obtain ⟨h, rfl⟩ := h
  obtain ⟨S, ha, hs, hr, hc⟩ := (h.find k).open_
  exact ⟨hc _ [.blk g (.cells cs' t (0, 0))] (Only.setRow_ ha.1 cs') ⟨fun i => i = g, ⟨rfl, setRow_heap w g cs cs' t (0, 0) ha.2⟩, fun i hi => .inl (by subst hi; exact ha.1), trivial⟩, by simp [World.setRow]⟩
/-- copy(dst, src), dst in a block known whole. -/
theorem cx_copy {P : Program} {w w0 : World} {B : Nat} {m r : List Asr} {ops : Array Oper} {rest : List Oper} {o : Oper} {a : Act} {Q : Exit → Act → World → Prop} (hgd : o.guard = none) (d s : Operand) (dT sT : TypeId)
    (ho : o.op = .call { callee := .builtin .copy, args := #[d, s], argTypes := #[dT, sT] }) (elem : TypeId) (hu : P.underlying dT = some (.slice elem)) (hsz : (P.info? elem).map (·.size) = some 1)
    (dp sp : Option Addr) (dLen dCap sLen sCap : Nat) (hd : a.eval d = .slice dp dLen dCap) (hs : a.eval s = .slice sp sLen sCap)
    (g off : Nat) (cur : List Value) (t : TypeId) (H : Cx B w0 w m) {curA : Array Value} (k : At m (.blk g (.cells curA t (0, 0))) r) (hcur : curA = cur.toArray) (cs : List Value) (hn : cs.length = Nat.min sLen dLen)
    (hpos : 0 < cs.length → dp = some ⟨g, off, none⟩ ∧ ∃ ad, sp = some ad ∧ ∀ j v, cs[j]? = some v → w.cell? (ad.add j) = some v)
    (hfit : off + cs.length ≤ cur.length) (h1 : ∀ v ∈ cs, v.oneCell' = true)
    (h : ∀ w', Cx B w0 w' (.blk g (.cells (splice cur off cs).toArray t (0, 0)) :: r) → wpList P ops Q rest (a.put o.dst (goInt cs.length)) w') :
    wpList P ops Q (o :: rest) a w := by
  subst hcur
  by_cases h0 : cs.length = 0
  · obtain rfl : cs = [] := List.eq_nil_of_length_eq_zero h0
    refine wpList_copy_nothing hgd d s dT sT ho elem hu hsz dp sp dLen dCap sLen sCap hd hs (by simpa using hn.symm) ?_
    exact h w (by simpa [splice] using H.find k)
  · obtain ⟨rfl, ad, rfl, hsrc⟩ := hpos (by omega)
    refine wpList_copy_own hgd d s dT sT ho elem hu hsz g off dLen dCap ad sLen sCap hd hs cur.toArray t (H.blk k) cs hn hsrc (by simpa using hfit) h1 ?_
    exact h _ (by simpa [splice] using (H.toS.setRow k _).cx)
theorem Cx.genCall {B : Nat} {w0 T : World} {n : Nat} {m : List Asr} {P : Program} {f : FuncId} {args : Array Value} {Q : Ending → World → Prop} (h : CxS B w0 T n m) (k : ∀ w1, Cx B w0 w1 m → Calls P f args w1 Q) : Calls P f args T Q := k T h.cx
theorem Cx.genCode {B : Nat} {w0 T : World} {n : Nat} {m : List Asr} {P : Program} {c : Code} {Q : Exit → Act → World → Prop} {a : Act} (h : CxS B w0 T n m) (k : ∀ w1, Cx B w0 w1 m → Code.wp P c Q a w1) : Code.wp P c Q a T := k T h.cx
theorem Cx.genList {B : Nat} {w0 T : World} {n : Nat} {m : List Asr} {P : Program} {ops : Array Oper} {rest : List Oper} {Q : Exit → Act → World → Prop} {a : Act} (h : CxS B w0 T n m) (k : ∀ w1, Cx B w0 w1 m → wpList P ops Q rest a w1) : wpList P ops Q rest a T := k T h.cx
/-- A call of append whose run is known. -/
theorem wpList_append_run {P : Program} {w w1 : World} {ops : Array Oper} {rest : List Oper} {o : Oper} {a : Act} {Q : Exit → Act → World → Prop} (hgd : o.guard = none) (s x : Operand) (t tn : TypeId)
    (ho : o.op = .call { callee := .builtin .append, args := #[s, x], argTypes := #[t, tn] }) (vs vx r : Value) (hs : a.eval s = vs) (hx : a.eval x = vx) (hrun : (Builtin.append_ #[t, tn] o.type #[vs, vx]).run P w = .ok r w1)
    (h : wpList P ops Q rest (a.put o.dst r) w1) : wpList P ops Q (o :: rest) a w := by
  refine wpList_plain hgd fun K hK => ?_
  unfold Oper.wp
  simp [execOp, ho, resolve, invoke, builtin, hs, hx, hrun, Result.andThen]
  exact hK _ _ h
/-- A row of the call's own. -/
def rowR {α : Type} (d : Kd α) (e : Nat) : Repr (List α) := ⟨fun w S v xs => d.R e w 0 S v xs, fun h k hd => R_only h k hd⟩
abbrev bytesR : Repr (List Int) := rowR (Kd.int .u8) 5
theorem Cx.push {α : Type} {d : Kd α} {e B : Nat} {w0 w w' : World} {m : List Asr} {ok : Nat → Prop} {v : Value} {xs : List α} (h : Cx B w0 w m) (hr : d.R e w' w.heap.size ok v xs) (hb : Below w.heap.size w w') : Cx B w0 w' (.own (rowR d e) v xs :: m) :=
  h.join (n := [.own (rowR d e) v xs]) ⟨hb, hb.size, ⟨_, Kd.R_lower (R_made_in hr) (Nat.zero_le _), fun _ h => h, trivial⟩⟩
/-- A row of the call's own is read. -/
theorem Cx.row {α : Type} {d : Kd α} {e B n c : Nat} {A : Option Addr} {w0 w : World} {m r : List Asr} {xs : List α} (h : Cx B w0 w m) (k : At m (.own (rowR d e) (.slice A n c) xs) r) : n = xs.length ∧ xs.length ≤ c ∧ d.C w A xs.length xs := by
  obtain ⟨S, hr, _⟩ := h.has k
  obtain ⟨h1, h2, h3⟩ := Kd.R_reads' (show d.R e w 0 S (.slice A n c) xs from hr)
  exact ⟨h1, by omega, h3⟩
theorem Cx.slice {α : Type} {d : Kd α} {e B : Nat} {w0 w : World} {m r : List Asr} {v : Value} {xs : List α} (h : Cx B w0 w m) (k : At m (.own (rowR d e) v xs) r) : ∃ A c, v = .slice A xs.length c ∧ xs.length ≤ c := by
  obtain ⟨S, hr, _⟩ := h.has k
  obtain ⟨A, c, h1, h2, _⟩ := Kd.R_reads (show d.R e w 0 S v xs from hr)
  exact ⟨A, c, h1, h2⟩
/-- What the walk's law of an append needs of a row, and what it leaves. -/
theorem Cx.grow {α : Type} {d : Kd α} {e B : Nat} {w0 w : World} {m r : List Asr} {v : Value} {xs : List α} (h : Cx B w0 w m) (k : At m (.own (rowR d e) v xs) r) :
    ∃ ok : Nat → Prop, d.R e w 0 ok v xs ∧ (∀ i, w.heap.size ≤ i → ok i) ∧ ∀ w1 v1 ys, d.R e w1 0 ok v1 ys → w.grownBy w1 v.ownBlock → Cx B w0 w1 (.own (rowR d e) v1 ys :: r) := by
  obtain ⟨S, ha, hs, hr, hc⟩ := (h.find k).open_
  have ha : d.R e w 0 S v xs := ha
  refine ⟨fun i => S i ∨ w.heap.size ≤ i, Kd.R_mono ha (fun _ h => .inl h), fun _ h => .inr h, fun w1 v1 ys h1 hg => ?_⟩
  refine hc w1 [.own (rowR d e) v1 ys] (Only.of_grown hg (fun k hk => ha.1 k hk)) ⟨Grow S w w1, ?_, fun _ h => h, trivial⟩
  exact Kd.R_mono (Kd.R_bound h1) (fun i hi => hi.1.imp id (fun h2 => ⟨h2, hi.2.2.1⟩))
theorem Cx.atList {B : Nat} {w0 T : World} {n : Nat} {m : List Asr} {P : Program} {ops : Array Oper} {rest : List Oper} {Q : Exit → Act → World → Prop} {a : Act} (h : CxS B w0 T n m) (k : Cx B w0 T m → wpList P ops Q rest a T) : wpList P ops Q rest a T := k h.cx
theorem gate_load {P : Program} {w : World} {ops : Array Oper} {rest : List Oper} {o : Oper} {a : Act} {Q : Exit → Act → World → Prop} {t : TypeId} {x : Operand} (_ho : o.op = .load t x) (h : wpList P ops Q (o :: rest) a w) : wpList P ops Q (o :: rest) a w := h
theorem gate_store {P : Program} {w : World} {ops : Array Oper} {rest : List Oper} {o : Oper} {a : Act} {Q : Exit → Act → World → Prop} {t : TypeId} {x y : Operand} (_ho : o.op = .store t x y) (h : wpList P ops Q (o :: rest) a w) : wpList P ops Q (o :: rest) a w := h
theorem Cx.nil {B : Nat} {w0 w : World} {m : List Asr} (h : Cx B w0 w m) : Cx B w0 w [] := ⟨h.bel, h.le, trivial⟩
theorem Cx.atPost {B : Nat} {w0 T : World} {n : Nat} {m : List Asr} {P : Program} {fn : Func} {R : Ending → World → Prop} {e : Exit} {a : Act} (h : CxS B w0 T n m) (k : Cx B w0 T m → bodyPost P fn R e a T) : bodyPost P fn R e a T := k h.cx
/-- What lies in a block that lay is read behind a draw and a new block (the walk's simp doesn't see it by itself). -/
theorem alloc_cell {W : World} {n : Nat} {o : Obj} {b j : Nat} (h : b < W.heap.size) : ((W.drewN n).alloc o).cell? ⟨b, j, none⟩ = W.cell? ⟨b, j, none⟩ := by
  simp only [World.cell?]
  rw [Below.heap_alloc (W.drewN n) o b h]
  rfl
theorem alloc_frozen {W : World} {n : Nat} {o : Obj} {b j : Nat} (h : b < W.heap.size) : ((W.drewN n).alloc o).frozen? ⟨b, j, none⟩ = W.frozen? ⟨b, j, none⟩ := by
  simp only [World.frozen?]
  rw [Below.heap_alloc (W.drewN n) o b h]
  rfl
theorem cx_copy_run {P : Program} {w w0 : World} {B : Nat} {m r : List Asr} (dT sT ty : TypeId) (elem : TypeId) (hu : P.underlying dT = some (.slice elem)) (hsz : (P.info? elem).map (·.size) = some 1)
    (dp sp : Option Addr) (dLen dCap sLen sCap : Nat) (g off : Nat) (cur : List Value) (t : TypeId) (H : Cx B w0 w m) {curA : Array Value} (k : At m (.blk g (.cells curA t (0, 0))) r) (hcur : curA = cur.toArray) (cs : List Value) (hn : cs.length = Nat.min sLen dLen)
    (hpos : 0 < cs.length → dp = some ⟨g, off, none⟩ ∧ ∃ ad, sp = some ad ∧ ∀ j v, cs[j]? = some v → w.cell? (ad.add j) = some v)
    (hfit : off + cs.length ≤ cur.length) (h1 : ∀ v ∈ cs, v.oneCell' = true) :
    ∃ w', (Builtin.copy_ #[dT, sT] ty #[.slice dp dLen dCap, .slice sp sLen sCap]).run P w = .ok (goInt cs.length) w' ∧ Cx B w0 w' (.blk g (.cells (splice cur off cs).toArray t (0, 0)) :: r) := by
  subst hcur
  by_cases h0 : cs.length = 0
  · obtain rfl : cs = [] := List.eq_nil_of_length_eq_zero h0
    exact ⟨w, run_copy_none (P := P) w dT sT ty elem dp sp dLen dCap sLen sCap hu hsz (by simpa using hn.symm), by simpa [splice] using H.find k⟩
  · obtain ⟨rfl, ad, rfl, hsrc⟩ := hpos (by omega)
    exact ⟨_, run_copy_row (P := P) w dT sT ty elem g off dLen dCap ad sLen sCap cur.toArray t cs hu hsz (H.blk k) hn hsrc (by simpa using hfit) h1, by simpa [splice] using (H.toS.setRow k _).cx⟩
/-- The same as one step of a region that draws its order. -/
theorem cx_copy_step {P : Program} {w w0 : World} {B : Nat} {m r : List Asr} {ops : Array Oper} {o : Oper} {a : Act} {K : Act → World → Prop} {Q : Exit → Act → World → Prop} (hw : Region.wanted o (yielded ops a.tmps) = true) (d s : Operand) (dT sT : TypeId)
    (ho : o.op = .call { callee := .builtin .copy, args := #[d, s], argTypes := #[dT, sT] }) (elem : TypeId) (hu : P.underlying dT = some (.slice elem)) (hsz : (P.info? elem).map (·.size) = some 1)
    (dp sp : Option Addr) (dLen dCap sLen sCap : Nat) (hd : a.eval d = .slice dp dLen dCap) (hs : a.eval s = .slice sp sLen sCap)
    (g off : Nat) (cur : List Value) (t : TypeId) (H : Cx B w0 w m) {curA : Array Value} (k : At m (.blk g (.cells curA t (0, 0))) r) (hcur : curA = cur.toArray) (cs : List Value) (hn : cs.length = Nat.min sLen dLen)
    (hpos : 0 < cs.length → dp = some ⟨g, off, none⟩ ∧ ∃ ad, sp = some ad ∧ ∀ j v, cs[j]? = some v → w.cell? (ad.add j) = some v)
    (hfit : off + cs.length ≤ cur.length) (h1 : ∀ v ∈ cs, v.oneCell' = true)
    (h : ∀ w', Cx B w0 w' (.blk g (.cells (splice cur off cs).toArray t (0, 0)) :: r) → K (a.put o.dst (goInt cs.length)) w') :
    if Region.wanted o (yielded ops a.tmps) = true then o.wp P a w K Q else K (a.put o.dst undef) w := by
  subst hcur
  rw [if_pos hw]
  obtain ⟨w', hrun, hcx⟩ := cx_copy_run (P := P) dT sT o.type elem hu hsz dp sp dLen dCap sLen sCap g off cur t H k rfl cs hn hpos hfit h1
  unfold Oper.wp
  simp [execOp, ho, resolve, invoke, builtin, hd, hs, hrun, Result.andThen]
  exact h _ hcx
theorem Cx.atStep {B : Nat} {w0 T : World} {n : Nat} {m : List Asr} {P : Program} {ops : Array Oper} {o : Oper} {a : Act} {K : Act → World → Prop} {Q : Exit → Act → World → Prop} (h : CxS B w0 T n m) (k : Cx B w0 T m → if Region.wanted o (yielded ops a.tmps) = true then o.wp P a T K Q else K (a.put o.dst undef) T) : if Region.wanted o (yielded ops a.tmps) = true then o.wp P a T K Q else K (a.put o.dst undef) T := k h.cx
theorem gate_step {P : Program} {w : World} {ops : Array Oper} {o : Oper} {a : Act} {K : Act → World → Prop} {Q : Exit → Act → World → Prop} {b : Builtin} {xs : Array Operand} {ts : Array TypeId} (_ho : o.op = .call { callee := .builtin b, args := xs, argTypes := ts }) (h : if Region.wanted o (yielded ops a.tmps) = true then o.wp P a w K Q else K (a.put o.dst undef) w) : if Region.wanted o (yielded ops a.tmps) = true then o.wp P a w K Q else K (a.put o.dst undef) w := h
theorem C_map {w : World} {A : Option Addr} {l : List Int} (h : Kd.C (Kd.int .u8) w A l.length l) (hp : 0 < l.length) : ∃ ad, A = some ad ∧ ∀ (j : Nat) v, (l.map (Value.int .u8))[j]? = some v → w.cell? (ad.add j) = some v := by
  obtain ⟨ad, e, hc⟩ := C_cells h hp
  refine ⟨ad, e, fun j v hv => ?_⟩
  rw [List.getElem?_map] at hv
  rcases hl : l[j]? with _ | x
  · rw [hl] at hv; cases hv
  · rw [hl] at hv
    have hj := (List.getElem?_eq_some_iff.1 hl).1
    rw [hc j hj]
    rw [← hv]
    simp [rd, hl]
theorem C_pair {W : World} {g t : Nat} {A1 A2 : Option Addr} {n1 n2 c1 c2 : Nat} {l1 l2 : List Int} (hb : W.heap[g]? = some (.cells #[.slice A1 n1 c1, .slice A2 n2 c2] t (0, 0))) (h1 : Kd.C (Kd.int .u8) W A1 n1 l1) (k1 : n1 ≤ c1) (h2 : Kd.C (Kd.int .u8) W A2 n2 l2) (k2 : n2 ≤ c2) :
    Kd.C (Kd.slice 5 (Kd.int .u8)) W (some ⟨g, 0, none⟩) 2 [l1, l2] := by
  have e1 := h1.1
  have e2 := h2.1
  subst e1
  subst e2
  exact C_block (Kd.slice 5 (Kd.int .u8)) rfl hb [l1, l2] (by simp) (fun j z hj => by
    rcases j with _ | _ | j
    · simp at hj; subst hj; exact ⟨_, rfl, A1, c1, rfl, k1, h1⟩
    · simp at hj; subst hj; exact ⟨_, rfl, A2, c2, rfl, k2, h2⟩
    · simp at hj)
theorem C_one {W : World} {g t : Nat} {A1 : Option Addr} {n1 c1 : Nat} {l1 : List Int} (hb : W.heap[g]? = some (.cells #[.slice A1 n1 c1] t (0, 0))) (h1 : Kd.C (Kd.int .u8) W A1 n1 l1) (k1 : n1 ≤ c1) :
    Kd.C (Kd.slice 5 (Kd.int .u8)) W (some ⟨g, 0, none⟩) 1 [l1] := by
  have e1 := h1.1
  subst e1
  exact C_block (Kd.slice 5 (Kd.int .u8)) rfl hb [l1] (by simp) (fun j z hj => by
    rcases j with _ | j
    · simp at hj; subst hj; exact ⟨_, rfl, A1, c1, rfl, k1, h1⟩
    · simp at hj)
theorem Cx.head {B : Nat} {w0 w : World} {m r : List Asr} {a : Asr} (h : Cx B w0 w m) (k : At m a r) : Cx B w0 w [a] := by
  have h := h.find k
  obtain ⟨S, ha, hs, _⟩ := h.sep
  exact ⟨h.bel, h.le, S, ha, hs, trivial⟩
/-- A guarded load of a whole block. -/
theorem wpList_load_row_g {P : Program} {ops : Array Oper} {rest : List Oper} {o : Oper} {a : Act} {w : World} {Q : Exit → Act → World → Prop} (hw : Region.wanted o (yielded ops a.tmps) = true) (ty : TypeId) (x : Operand) (ho : o.op = .load ty x)
    (g : Nat) (hx : a.eval x = .pointer (some ⟨g, 0, none⟩)) (t : TypeId) (cs : Array Value) (fr : Nat × Nat) (d : TypeDesc) (hg : w.heap[g]? = some (.cells cs t fr))
    (hu : P.underlying ty = some d) (hd : (match d with | .struct _ | .array _ _ => true | _ => false) = true) (hi : (P.info? ty).map (·.size) = some cs.size)
    (h : wpList P ops Q rest (a.put o.dst (.agg cs)) w) : wpList P ops Q (o :: rest) a w := by
  unfold wpList
  rw [if_pos hw]
  exact .inl (wp_load_row ty x ho g hx t cs fr d hg hu hd hi h)
/-- A row that was written out. -/
theorem Cx.lit {B : Nat} {w0 w : World} {m r : List Asr} {g : Nat} {cs : Array Value} (l : List Int) (H : Cx B w0 w m) (k : At m (.blk g (.cells cs 5 (0, 0))) r) (hcs : cs = (l.map (Value.int .u8)).toArray) (hl : l.length ≤ 1000000) : Cx B w0 w (.own bytesR (.slice (some ⟨g, 0, none⟩) l.length l.length) l :: r) := by
  subst hcs
  obtain ⟨S, ha, hs, _, hcl⟩ := (H.find k).open_
  have ho : w.ownsRow 0 5 1 (.slice (some ⟨g, 0, none⟩) l.length l.length) l.length (encs (Value.int .u8) l) :=
    ⟨by simp [encs], .inr ⟨g, l.length, _, rfl, Nat.zero_le _, ha.2, Nat.le_refl _, by unfold maxLen; omega, by simp, by rw [Nat.mul_one]; exact List.take_of_length_le (by simp)⟩⟩
  exact hcl w [.own bytesR _ l] (Only.refl _ _) ⟨fun i => i = g, Kd.R_of_own (enc := Value.int .u8) (h1 := fun _ => rfl) ho (fun q hq => by simp [Value.ownBlock] at hq; exact hq.symm), fun i hi => .inl (by subst hi; exact ha.1), trivial⟩
theorem Cx.rowN {α : Type} {d : Kd α} {e B n c : Nat} {A : Option Addr} {w0 w : World} {m r : List Asr} {xs : List α} (h : Cx B w0 w m) (k : At m (.own (rowR d e) (.slice A n c) xs) r) : d.C w A n xs ∧ n ≤ c := by
  obtain ⟨h1, h2, h3⟩ := h.row k
  subst h1
  exact ⟨h3, h2⟩
theorem C_lit1 {W : World} {g : Nat} {x : Int} (hb : W.heap[g]? = some (.cells #[.int .u8 x] 5 (0, 0))) : Kd.C (Kd.int .u8) W (some ⟨g, 0, none⟩) 1 [x] :=
  C_block (Kd.int .u8) rfl hb [x] (by simp) (fun j z hj => by
    rcases j with _ | j
    · simp at hj; subst hj; exact ⟨_, rfl, rfl⟩
    · simp at hj)
/-- 'T{}', of no elements. -/
theorem Cx.lit0 {B : Nat} {w0 w : World} {m r : List Asr} {g : Nat} (H : Cx B w0 w m) (k : At m (.blk g (.cells #[] 5 (0, 0))) r) : Cx B w0 w (.own bytesR (.slice (some ⟨g, 0, none⟩) 0 0) [] :: r) := H.lit (cs := #[]) [] k rfl (by simp)

-- AUX u8arr
/-- The cells of an array of bytes. -/
def u8A (s : List Int) : Array Value := (s.map (Value.int .u8)).toArray
theorem u8A_size (s : List Int) : (u8A s).size = s.length := by simp [u8A]
theorem u8A_one (s : List Int) : (u8A s).all (·.oneCell') = true := by
  rw [Array.all_eq_true_iff_forall_mem]
  intro v hv
  simp only [u8A, List.mem_toArray, List.mem_map] at hv
  obtain ⟨x, _, rfl⟩ := hv
  rfl
theorem run_sizeOf_ {P : Program} {e : TypeId} {n : Nat} (hs : (P.info? e).map (·.size) = some n) (w : World) : (sizeOf e).run P w = .ok n w := by
  cases hq : P.info? e with
  | none => simp [hq] at hs
  | some i =>
    have : i.size = n := by simpa [hq] using hs
    simp [sizeOf, typeInfo, hq, this, Sem.run_bind]
theorem part_u8A {P : Program} {e : TypeId} (he : P.underlying e = some (.int .u8)) (xs : List Int) (i : Nat) (h : i < xs.length) (w : World) :
    (part e (u8A xs) i).run P w = .ok (.int .u8 xs[i]) w := by
  unfold part isAgg
  simp only [Sem.run_bind, run_underlying he, Result.andThen_ok, Sem.run_pure, Bool.false_eq_true, if_false]
  have : (u8A xs)[i]? = some (.int .u8 xs[i]) := by simp [u8A, h]
  rw [this]
  rfl
theorem eqloop {P : Program} {e : TypeId} (d : Nat) (he : P.underlying e = some (.int .u8)) (xs ys : List Int) (w : World) : ∀ (m i : Nat), i + m = xs.length → xs.length = ys.length →
    (Sem.run P (forIn (List.range' i m) ((none, ()) : Option Bool × Unit) fun i __s => do
              let __do_lift ← part e (u8A xs) (i * 1)
              let __do_lift_1 ← part e (u8A ys) (i * 1)
              let __do_lift ← Op.equalIn (d + 1) e __do_lift __do_lift_1
              if (!__do_lift) = true then pure (ForInStep.done (some false, ())) else pure (ForInStep.yield (none, ()))) w) =
      .ok (if xs.drop i = ys.drop i then none else some false, ()) w := by
  intro m
  induction m with
  | zero =>
    intro i hi hl
    rw [List.drop_eq_nil_of_le (by omega), List.drop_eq_nil_of_le (by omega)]
    simp
  | succ m ih =>
    intro i hi hl
    have hx : i < xs.length := by omega
    have hy : i < ys.length := by omega
    rw [List.range'_succ, List.forIn_cons]
    simp only [Nat.mul_one, Sem.run_bind, part_u8A he xs i hx, part_u8A he ys i hy, Result.andThen_ok, run_equalIn_int w d e .u8 .u8 _ _ he]
    rw [List.drop_eq_getElem_cons hx, List.drop_eq_getElem_cons hy]
    by_cases h : xs[i] = ys[i]
    · have ih' := ih (i + 1) (by omega) hl
      simp only [Nat.mul_one] at ih'
      simp only [h, beq_self_eq_true, Bool.not_true, Bool.false_eq_true, if_false, Sem.run_pure, Result.andThen_ok, List.cons.injEq, true_and]
      exact ih'
    · have h2 : (xs[i] == ys[i]) = false := beq_eq_false_iff_ne.2 h
      simp only [h2, Bool.not_false, if_true, Sem.run_pure, Result.andThen_ok, List.cons.injEq, h, false_and, if_false]
theorem equalIn_u8A {P : Program} {e : TypeId} (d : Nat) (t n : Nat) (ht : P.underlying t = some (.array n e)) (he : P.underlying e = some (.int .u8)) (hs : (P.info? e).map (·.size) = some 1) (xs ys : List Int) (hx : xs.length = n) (hy : ys.length = n) (w : World) :
    (Op.equalIn (d + 2) t (.agg (u8A xs)) (.agg (u8A ys))).run P w = .ok (decide (xs = ys)) w := by
  rw [Op.equalIn]
  simp only [Sem.run_bind, run_underlying ht, Result.andThen_ok, run_sizeOf_ hs]
  have h := eqloop (P := P) d he xs ys w n 0 (by omega) (by omega)
  rw [Std.Legacy.Range.forIn_eq_forIn_range']
  simp only [Std.Legacy.Range.size, Nat.sub_zero, Nat.add_sub_cancel, Nat.div_one]
  rw [h]
  by_cases hxy : xs = ys
  · subst hxy; simp
  · simp [hxy]
/-- x[l:h], x an array in memory. -/
theorem slice_arr {P : Program} (W : World) (t n e : Nat) (ht : P.underlying t = some (.array n e)) (hs : (P.info? e).map (·.size) = some 1) (b l h : Nat) (i j : Int) (hi : i = (l : Int)) (hj : j = (h : Int)) (h1 : l ≤ h) (h2 : h ≤ n) (h3 : l < n) :
    (Instr.sliceAt t (.pointer (some ⟨b, 0, none⟩)) (some (.int .i64 i)) (some (.int .i64 j)) none).run P W = .ok (.slice (some ⟨b, l, none⟩) (h - l) (n - l)) W := by
  subst hi hj
  have hne : ¬ n = l := by omega
  have ha : (⟨b, 0, none⟩ : Addr).add l = ⟨b, l, none⟩ := by unfold Addr.add; split <;> simp_all
  simp [Instr.sliceAt, run_underlying ht, Instr.sureAddr, Instr.sliceBounds, run_sliceBound, run_sizeOf_ hs, h1, h2, hne, ha]
theorem size_u8 : (Try.prog.info? 5).map (·.size) = some 1 := by
  obtain ⟨i, hi, hz⟩ := Option.map_eq_some_iff.1 info5
  simp only [Prod.mk.injEq] at hz
  rw [hi, Option.map_some, hz.2.1]
theorem C_u8A {w : World} {g t : Nat} {s : List Int} {fr : Nat × Nat} (hb : w.heap[g]? = some (.cells (u8A s) t fr)) (hl : s.length ≤ 9223372036854775807) (k : Nat) (hk : k ≤ s.length) : Kd.C (Kd.int .u8) w (some ⟨g, k, none⟩) (s.drop k).length (s.drop k) :=
  C_mk (by rw [List.length_drop]; omega) (fun hp => ⟨⟨g, k, none⟩, rfl, fun j hj => by
    rw [List.length_drop] at hj
    have e : (⟨g, k, none⟩ : Addr).add j = ⟨g, k + j, none⟩ := by
      unfold Addr.add
      split <;> simp_all
    rw [e]
    simp [World.cell?, hb, u8A, rd, List.getElem?_map]
    rw [List.getElem?_eq_getElem (by omega)]
    simp⟩)
theorem C_sec {w : World} {g t : Nat} {s : List Int} {fr : Nat × Nat} (hb : w.heap[g]? = some (.cells (u8A s) t fr)) (hs : s.length = 128) (k n : Nat) (hk : k ≤ 128) (hn : n = 128 - k) : Kd.C (Kd.int .u8) w (some ⟨g, k, none⟩) n (s.drop k) := by
  have h := C_u8A hb (by omega) k (by omega)
  rw [List.length_drop, hs, ← hn] at h
  exact h
theorem C_seg {w : World} {g t : Nat} {s : List Int} {fr : Nat × Nat} (hb : w.heap[g]? = some (.cells (u8A s) t fr)) (hs : s.length = 128) (k n : Nat) (hk : k + n ≤ 128) : Kd.C (Kd.int .u8) w (some ⟨g, k, none⟩) n ((s.drop k).take n) := by
  have h := Kd.C_take (m := n) (C_u8A hb (by omega) k (by omega)) (by rw [List.length_drop]; omega)
  rw [List.length_take, List.length_drop, hs, Nat.min_eq_left (by omega)] at h
  exact h

/-! ### box_within: function 23 -/
def box_within.f (a0 : Int) (a1 : Int) (a2 : Int) : Option (Bool) := if a0 ≥ a1 then (some (decide (a0 ≤ a2))) else (some false)
set_option maxHeartbeats 8000000 in
set_option maxRecDepth 100000 in
theorem box_within.calls (a0 : Int) (a1 : Int) (a2 : Int) (r : Bool) (w : World) (h : box_within.f a0 a1 a2 = some r) :
    Calls Try.prog 23 #[.int .i64 a0, .int .i64 a1, .int .i64 a2] w fun e w' => e = .returned (.bool r) ∧ Drawn0 w w' := by
  have H : (if a0 ≥ a1 then (some (decide (a0 ≤ a2))) else (some false)) = some r := h
  clear h
  by_cases c4 : a0 ≥ a1
  · rw [if_pos c4] at H
    have c4b0 : decide (a1 ≤ a0) = true := decide_eq_true c4
    clear c4
    obtain rfl := Option.some.inj H
    go_enter Try.func23, Try.ntmps23
    go_wp2
    go_ret
    exact ⟨by first | rfl | (simp; done) | (simp [*]; done), by repeat (first | exact Drawn0.refl _ | apply Drawn0.step)⟩
  · rw [if_neg c4] at H
    have c4b0 : decide (a1 ≤ a0) = false := decide_eq_false c4
    clear c4
    obtain rfl := Option.some.inj H
    go_enter Try.func23, Try.ntmps23
    go_wp2
    go_ret
    exact ⟨by first | rfl | (simp; done) | (simp [*]; done), by repeat (first | exact Drawn0.refl _ | apply Drawn0.step)⟩

-- AUX sect
/-- Two sectors are compared. -/
theorem eql_sector (xs ys : List Int) (hx : xs.length = 128) (hy : ys.length = 128) (w : World) : (Op.equalIn 10000 28 (.agg (u8A xs)) (.agg (u8A ys))).run Try.prog w = .ok (decide (xs = ys)) w :=
  equalIn_u8A 9998 28 128 Try.underlying28 Try.underlying5 size_u8 xs ys hx hy w
theorem info_sector : (Try.prog.info? 28).map (·.size) = some 128 := by kernel_rfl
def z128 : List Int := List.replicate 128 0
theorem zero_sector (W : World) : (zeroValue 28).run Try.prog W = .ok (.agg (u8A z128)) W := by
  have h : (Try.prog.info? 28).map (·.zero) = some (some (.agg (u8A z128))) := by kernel_rfl
  obtain ⟨i, hi, hz⟩ := Option.map_eq_some_iff.1 h
  simp [zeroValue, typeInfo, hi, hz]
theorem z128_sz : (u8A z128).size = 128 := by rw [u8A_size]; simp [z128]
theorem info_z : (Try.prog.info? 28).map (·.size) = some (u8A z128).size := by rw [z128_sz]; exact info_sector
theorem within_calls (a b c : Int) (r : Bool) (h : r = decide (b ≤ a ∧ a ≤ c)) (w : World) : Calls Try.prog 23 #[.int .i64 a, .int .i64 b, .int .i64 c] w fun e w' => e = .returned (.bool r) ∧ Drawn0 w w' := by
  refine box_within.calls a b c r w ?_
  subst h
  unfold box_within.f
  by_cases h1 : a ≥ b
  · rw [if_pos h1]; congr 1; simp; omega
  · rw [if_neg h1]; congr 1; symm; simp; omega

/-! ### slices_Clone_byte_byte: function 35 -/
/-- A copy of its own. -/
theorem slices_Clone_byte_byte.own (A0 : Option Addr) (c0 : Nat) (l0 : List Int) (w : World) (hr0 : Kd.C (Kd.int .u8) w A0 l0.length l0) (hp : l0.length < 140737488355328) :
    Calls Try.prog 35 #[.slice A0 l0.length c0] w fun e w' => ∃ v0_ : Value, e = .returned (v0_) ∧ Kd.R (Kd.int .u8) 5 w' w.heap.size (fun _ => True) v0_ l0 ∧ Below w.heap.size w w' := by
  have HR := Aside0.mk hr0
  rcases A0 with _ | ad
  · have hl : l0 = [] := by
      rcases l0 with _ | ⟨x, l⟩
      · rfl
      · obtain ⟨_, _, hc⟩ := hr0
        obtain ⟨ad, e, _⟩ := hc (by simp)
        cases e
    subst hl
    clear hr0 HR
    have heq : ∀ W : World, (binOp .eql 22 (.slice none 0 c0) (.slice none 0 0)).run Try.prog W = .ok (.bool true) W := fun W => Lib.run_eql_slice_nil (P := Try.prog) W 22 5 none 0 c0 0 0 Try.underlying22
    simp only [List.length_nil] at hp ⊢
    go_enter Try.func35, Try.ntmps35
    go_wp2
    go_ret
    exact ⟨_, rfl, Kd.R_nil _ _ _ _ _, Below.refl _ _⟩
  · clear hr0
    have heq : ∀ W : World, (binOp .eql 22 (.slice (some ad) l0.length c0) (.slice none 0 0)).run Try.prog W = .ok (.bool false) W := fun W => Lib.run_eql_slice_nil (P := Try.prog) W 22 5 (some ad) l0.length c0 0 0 Try.underlying22
    go_enter Try.func35, Try.ntmps35
    go_wp2_with (first | ((with_reducible refine gate_builtin (b := .append) (xs := #[.tmp 5, .tmp 6]) rfl ?_); at_builtin; refine Kd.R_append_rows (Kd.int .u8) (w0 := w) w.heap.size rfl (.tmp 5) (.tmp 6) 22 5 (.int .u8 0) 1 rfl Try.underlying22 info5 rfl (by decide) (by omega) _ [] l0 _ _ _ (fun _ => True) (fun _ => False) rfl rfl ?aO ?aR (fun _ _ h => h) (fun _ h => h.elim) (fun _ _ => trivial) ?aB ?aS ?aL ?_; (case aO => exact R_empty w w.heap.size (Nat.le_refl _)); (case aR => exact Kd.C_alloc HR.out _); (case aB => exact below_alloc (Below.refl _ w) _); (case aS => simp); (case aL => (simp; omega)); intro v3 w3 ho hb hg hat; clear hg hat; have HO3 := Aside0.mk ho; have HB3 := Aside0.mk hb; clear ho hb))
    go_ret
    exact ⟨_, rfl, by simpa using HO3.out, HB3.out⟩

-- AUX wr
/-- What a writer (h; z: it is nil) holds: its bytes, in blocks of S. -/
def Wr (w : World) (S : Nat → Prop) (z : Bool) (h : Value) (l : List Int) : Prop :=
  (z = true ∧ h = .pointer none ∧ l = []) ∨ (z = false ∧ ∃ p v, h = .pointer (some ⟨p, 0, none⟩) ∧ S p ∧ w.heap[p]? = some (.cells #[v] 60 (0, 0)) ∧ Kd.R (Kd.int .u8) 5 w 0 S v l)
/-- What is there behind bytes were put to it. -/
def app (z : Bool) (l bs : List Int) : List Int := if z = true then l else l ++ bs
theorem app_app (z : Bool) (l a b : List Int) : app z (app z l a) b = app z l (a ++ b) := by cases z <;> simp [app]
theorem app_nil (z : Bool) (l : List Int) : app z l [] = l := by cases z <;> simp [app]
theorem app_len (z : Bool) (l a : List Int) : (app z l a).length ≤ l.length + a.length := by cases z <;> simp [app]
theorem Wr.mono {w : World} {S T : Nat → Prop} {z : Bool} {h : Value} {l : List Int} (x : Wr w S z h l) (hS : ∀ i, S i → T i) : Wr w T z h l := by
  rcases x with x | ⟨hz, p, v, rfl, hp, hb, hr⟩
  · exact .inl x
  · exact .inr ⟨hz, p, v, rfl, hS _ hp, hb, Kd.R_mono hr hS⟩
theorem Wr.only {w w' : World} {S T : Nat → Prop} {z : Bool} {h : Value} {l : List Int} (x : Wr w S z h l) (k : Only w w' T) (hd : ∀ i, S i → ¬ T i) : Wr w' S z h l := by
  rcases x with x | ⟨hz, p, v, rfl, hp, hb, hr⟩
  · exact .inl x
  · exact .inr ⟨hz, p, v, rfl, hp, k.same_block hb (hd _ hp), R_only hr k hd⟩
theorem Wr.below {w w' : World} {S : Nat → Prop} {z : Bool} {h : Value} {l : List Int} (x : Wr w S z h l) (k : Below w.heap.size w w') : Wr w' S z h l := x.only (Only.of_below k (fun _ => False)) (fun _ _ h => h)
/-- What a writing call leaves. -/
structure WrTo (w w' : World) (S : Nat → Prop) (z : Bool) (h : Value) (l : List Int) : Prop where
  wr : Wr w' (Grow S w w') z h l
  only : Only w w' S
theorem WrTo.then_ {w w1 w2 : World} {S : Nat → Prop} {z : Bool} {h : Value} {l l2 : List Int} (x : WrTo w w1 S z h l) (y : WrTo w1 w2 (Grow S w w1) z h l2) : WrTo w w2 S z h l2 :=
  ⟨y.wr.mono (Grow.trans x.only.size y.only.size), x.only.trans y.only⟩
theorem WrTo.below {w w1 w2 : World} {S : Nat → Prop} {z : Bool} {h : Value} {l : List Int} (x : WrTo w w1 S z h l) (k : Below w1.heap.size w1 w2) : WrTo w w2 S z h l :=
  ⟨(x.wr.below k).mono (fun i hi => hi.imp id (fun h => ⟨h.1, by have := k.size; omega⟩)), x.only.below_ k⟩
theorem WrTo.refl {w : World} {S : Nat → Prop} {z : Bool} {h : Value} {l : List Int} (x : Wr w S z h l) : WrTo w w S z h l := ⟨x.mono (fun _ h => .inl h), Only.refl _ _⟩
theorem WrTo.late {w w1 w2 : World} {S : Nat → Prop} {z : Bool} {h : Value} {l : List Int} (k : Below w.heap.size w w1) (x : WrTo w1 w2 S z h l) : WrTo w w2 S z h l :=
  ⟨x.wr.mono (fun i hi => hi.imp id (fun h => ⟨by have := k.size; omega, h.2⟩)), (Only.of_below k S).same x.only⟩
theorem wr_put {w w1 : World} {S : Nat → Prop} {p : Nat} {v v1 : Value} {l l' : List Int} (hS : S p) (hblk : w.heap[p]? = some (.cells #[v] 60 (0, 0))) (h0 : Kd.R (Kd.int .u8) 5 w 0 S v l)
    (hO : Kd.R (Kd.int .u8) 5 w1 0 (fun k => S k ∨ w.heap.size ≤ k) v1 l') (hg : w.grownBy w1 v.ownBlock) :
    WrTo w (w1.setCell ⟨p, 0, none⟩ v1) S false (.pointer (some ⟨p, 0, none⟩)) l' := by
  have hne : some p ≠ v.ownBlock := fun e => by
    obtain ⟨inner, ho⟩ := Kd.R_own h0
    obtain ⟨cells, hc⟩ := own_typed ho p e.symm
    rw [hblk] at hc
    injection hc with hc
    injection hc with _ h2 _
    exact absurd h2 (by decide)
  have hb1 : w1.heap[p]? = some (.cells #[v] 60 (0, 0)) := (hg.block p (blk_size hblk) hne).trans hblk
  have hsz : (w1.setCell ⟨p, 0, none⟩ v1).heap.size = w1.heap.size := by simp [World.setCell]
  refine ⟨.inr ⟨rfl, p, v1, rfl, .inl hS, setCell_here hb1 0 v1, ?_⟩, (Only.of_grown hg (fun k hk => h0.1 k hk)).setCell (p := ⟨p, 0, none⟩) (.inl hS) v1⟩
  refine Kd.R_mono (Kd.R_bound (Kd.R_set hO hb1 (by decide) 0 v1)) (fun k hk => ?_)
  rw [hsz] at hk
  rcases hk.1 with h | h
  · exact .inl h
  · exact .inr ⟨h, by rw [hsz]; exact hk.2.2.1⟩

-- AUX XC
theorem clone_own {B : Nat} {w0 w : World} {m : List Asr} (A : Option Addr) (n c : Nat) (l : List Int) (H : Cx B w0 w m) (hr : Kd.C (Kd.int .u8) w A n l) (hp : l.length < 140737488355328) :
    Calls Try.prog 35 #[.slice A n c] w fun e w' => ∃ v, e = .returned v ∧ Cx B w0 w' (.own bytesR v l :: m) := by
  obtain rfl := hr.1
  refine (slices_Clone_byte_byte.own A c l w hr hp).mono ?_
  rintro e w' ⟨v, rfl, ho, hb⟩
  exact ⟨v, rfl, H.push ho hb⟩

/-! ### wire_Writer_add: function 39 -/
theorem wire_Writer_add.calls (S : Nat → Prop) (z : Bool) (h : Value) (l : List Int) (A : Option Addr) (c : Nat) (bs : List Int) (w : World) (hw : Wr w S z h l) (hr : Kd.C (Kd.int .u8) w A bs.length bs) (hl : l.length + bs.length ≤ 140737488355328) :
    Calls Try.prog 39 #[h, .slice A bs.length c] w fun e w' => e = .returned (.tuple #[]) ∧ WrTo w w' S z h (app z l bs) := by
  rcases hw with ⟨rfl, rfl, rfl⟩ | ⟨rfl, p, v, rfl, hp, hb, hR⟩
  · clear hr
    go_enter Try.func39, Try.ntmps39
    go_wp2
    go_end0
    exact ⟨rfl, WrTo.refl (.inl ⟨rfl, rfl, rfl⟩)⟩
  · have hcell : w.cell? ⟨p, 0, none⟩ = some v := by rw [cell_of hb]; rfl
    have hplt := blk_size hb
    have HB := Aside0.mk hb
    have HR := Aside0.mk hr
    have HO := Aside0.mk (Kd.R_mono hR (fun k hk => (.inl hk : S k ∨ w.heap.size ≤ k)))
    have HO0 := Aside0.mk hR
    clear hb hr hR
    go_enter Try.func39, Try.ntmps39
    go_wp2_with (((with_reducible refine gate_builtin (b := .append) (xs := #[.tmp 10, .tmp 11]) rfl ?_); at_builtin; refine Kd.R_append_rows (Kd.int .u8) (w0 := w) 0 rfl (.tmp 10) (.tmp 11) 22 5 (.int .u8 0) 1 rfl Try.underlying22 info5 rfl (by decide) (by omega) v l bs _ _ _ (fun k => S k ∨ w.heap.size ≤ k) (fun _ => False) rfl rfl HO.out HR.out (fun _ _ h => h) (fun _ h => h.elim) (fun _ hk => .inr hk) (Below.refl _ _) (Nat.zero_le _) ?aL ?_; (case aL => omega); intro v1 w1 ho hb1 hg hat; clear hb1 hat; obtain ⟨A1, c1, rfl, -⟩ := Kd.R_reads ho; have HO1 := Aside0.mk ho; have HG := Aside0.mk hg; have hcell1 : w1.cell? ⟨p, 0, none⟩ = some v := (by rw [cell_of ((hg.block p hplt (fun e => by obtain ⟨inner, hoo⟩ := Kd.R_own HO0.out; obtain ⟨cells, hc⟩ := own_typed hoo p e.symm; rw [HB.out] at hc; injection hc with hc; injection hc with _ h2 _; exact absurd h2 (by decide))).trans HB.out)]; rfl); have hfz1 : w1.frozen? ⟨p, 0, none⟩ = false := (by rw [frozen_of ((hg.block p hplt (fun e => by obtain ⟨inner, hoo⟩ := Kd.R_own HO0.out; obtain ⟨cells, hc⟩ := own_typed hoo p e.symm; rw [HB.out] at hc; injection hc with hc; injection hc with _ h2 _; exact absurd h2 (by decide))).trans HB.out)]); clear ho hg))
    go_end0
    exact ⟨rfl, by have := wr_put hp HB.out HO0.out HO1.out HG.out; simp only [List.length_append] at this; exact this⟩

-- AUX numL
/-- A number's bytes. -/
def numL (n : Int) : List Int := (List.range 8).map fun i => n / 2 ^ (8 * i) % 256
theorem numL_len (n : Int) : (numL n).length = 8 := by simp [numL]
def numA (n : Int) (k : Nat) : Array Value := ((List.range 8).map fun i => if i < k then .int .u8 (n / 2 ^ (8 * i) % 256) else .int .u8 0).toArray
theorem numA_at (n : Int) (k : Nat) (h : k < 8) : (numA n k)[k]? = some (.int .u8 0) := by simp [numA, h]
theorem numA_set (n : Int) (k : Nat) (h : k < 8) (x : Int) (hx : x = n / 2 ^ (8 * k) % 256) : (numA n k).setIfInBounds k (.int .u8 x) = numA n (k + 1) := by
  subst hx
  refine Array.ext_getElem? fun i => ?_
  simp only [numA, Array.getElem?_setIfInBounds, List.getElem?_toArray, List.getElem?_map]
  by_cases e : k = i
  · subst e
    simp [h]
  · by_cases hi : i < 8
    · have : (i < k + 1) = (i < k) := by simp only [eq_iff_iff]; omega
      simp [e, hi, this]
    · simp [e, hi]
theorem numA_C (n : Int) (w : World) : Kd.C (Kd.int .u8) (w.alloc (.cells (numA n 8) 80)) (some ⟨w.heap.size, 0, none⟩) (numL n).length (numL n) :=
  C_block (Kd.int .u8) rfl (heap_alloc_new w _) (numL n) (by rw [numL_len]; omega) (fun j x hj => by
    have hlt : j < 8 := by
      rcases Nat.lt_or_ge j 8 with h | h
      · exact h
      · rw [List.getElem?_eq_none (by rw [numL_len]; exact h)] at hj; cases hj
    refine ⟨.int .u8 x, ?_, rfl⟩
    simp only [numL, List.getElem?_map, List.getElem?_range hlt, Option.map_some, Option.some.injEq] at hj
    simp [numA, hlt, hj])

/-! ### wire_Writer_Num: function 25 -/
theorem wire_Writer_Num.calls (S : Nat → Prop) (z : Bool) (h : Value) (l : List Int) (n : Int) (w : World) (hw : Wr w S z h l) (hl : l.length + 8 ≤ 140737488355328) (h1 : -9223372036854775808 ≤ n) (h2 : n ≤ 9223372036854775807) :
    Calls Try.prog 25 #[h, .int .i64 n] w fun e w' => e = .returned (.tuple #[]) ∧ WrTo w w' S z h (app z l (numL n)) := by
  have HW := Aside0.mk hw
  clear hw
  go_enter Try.func25, Try.ntmps25
  go_wp2
  go_loopw [5, 6] (fun _ v6 wr => ∃ k : Nat, k ≤ 8 ∧ v6 = .int .i64 k ∧ wr = w.alloc (.cells (numA n k) 80)) (fun _ v6 _ => 8 - (intOf v6).toNat)
  case atStart => exact ⟨0, by omega, rfl, rfl⟩
  case round =>
    obtain ⟨k, hk, rfl, rfl⟩ := hrel
    by_cases hlt : k < 8
    · have hat := numA_at n k hlt
      go_wp2
      exact ⟨⟨k + 1, by omega, by go_num, by rw [numA_set n k hlt _ (by first | rfl | (congr 1; done) | skip)]⟩, by simp [intOf]; omega⟩
    · obtain rfl : k = 8 := by omega
      go_wp2_with fail
      have hc := numA_C n w
      refine (wire_Writer_add.calls S z h l (some ⟨w.heap.size, 0, none⟩) 8 (numL n) _ (HW.out.below (below_alloc (Below.refl _ _) _)) hc (by rw [numL_len]; exact hl)).mono ?_
      rintro e w1 ⟨rfl, hx⟩
      go_wp2
      go_end0
      exact ⟨rfl, hx.late (below_alloc (Below.refl _ _) _)⟩

/-! ### wire_Writer_Out: function 27 -/
theorem wire_Writer_Out.calls (S : Nat → Prop) (z : Bool) (h : Value) (l : List Int) (w : World) (hw : Wr w S z h l) (hl : l.length < 140737488355328) :
    Calls Try.prog 27 #[h] w fun e w' => ∃ v, e = .returned v ∧ Kd.R (Kd.int .u8) 5 w' w.heap.size (fun _ => True) v l ∧ Below w.heap.size w w' := by
  rcases hw with ⟨rfl, rfl, rfl⟩ | ⟨rfl, p, v, rfl, hp, hb, hR⟩
  · go_enter Try.func27, Try.ntmps27
    go_wp2
    go_ret
    exact ⟨_, rfl, Kd.R_nil _ _ _ _ _, Below.refl _ _⟩
  · have hcell : w.cell? ⟨p, 0, none⟩ = some v := by rw [cell_of hb]; rfl
    obtain ⟨A, c, rfl, -⟩ := Kd.R_reads hR
    have HC := Aside0.mk (Kd.R_reads' hR).2.2
    clear hb hR
    go_enter Try.func27, Try.ntmps27
    go_wp2_with fail
    refine (slices_Clone_byte_byte.own A c l _ HC.out hl).mono ?_
    rintro e w1 ⟨v, rfl, hv, hbl⟩
    obtain ⟨A1, c1, rfl, -⟩ := Kd.R_reads hv
    have HV := Aside0.mk hv
    have HB := Aside0.mk hbl
    clear hv hbl
    go_wp2
    go_ret
    exact ⟨_, rfl, HV.out, HB.out⟩

-- AUX rdr
/-- A struct that reads (type t, at p): what it has left. -/
structure Cur (t : Nat) (w : World) (S : Nat → Prop) (p : Nat) (A : Option Addr) (c : Nat) (l : List Int) (bad : Bool) : Prop where
  str : w.heap[p]? = some (.cells #[.slice A l.length c, .bool bad] t (0, 0))
  len : l.length ≤ c
  row : Rb w S A l
  ne : ¬ S p
  z : bad = true → l = []
  byt : ∀ x ∈ l, 0 ≤ x ∧ x < 256
/-- The row may be written. -/
def Nf (w : World) (A : Option Addr) (l : List Int) : Prop := 0 < l.length → ∀ a, A = some a → a.spot = none ∧ ∃ cs, w.heap[a.block]? = some (.cells cs 5 (0, 0))
theorem Nf.only {w w' : World} {S T : Nat → Prop} {A : Option Addr} {l : List Int} (h : Nf w A l) (r : Rb w S A l) (o : Only w w' T) (hd : ∀ i, S i → ¬ T i) : Nf w' A l := fun hp a ha => by
  obtain ⟨hs, cs, hc⟩ := h hp a ha
  exact ⟨hs, cs, o.same_block hc (hd _ (r.blk hp a ha))⟩
theorem Cur.only {t : Nat} {w w' : World} {S T : Nat → Prop} {p : Nat} {A : Option Addr} {c : Nat} {l : List Int} {bad : Bool} (x : Cur t w S p A c l bad) (o : Only w w' T) (hd : ∀ i, S i → ¬ T i) (hp : ¬ T p) : Cur t w' S p A c l bad :=
  ⟨o.same_block x.str hp, x.len, x.row.only o hd, x.ne, x.z, x.byt⟩
/-- A pointer's block. -/
def Pt (h : Value) : Nat → Prop := fun i => h = .pointer (some ⟨i, 0, none⟩)
/-- What a reader (h; nil: a bad one) has left, in blocks of S. -/
def Rd (w : World) (S : Nat → Prop) (h : Value) (l : List Int) (bad : Bool) : Prop :=
  (h = .pointer none ∧ l = [] ∧ bad = true) ∨ ∃ p A c, h = .pointer (some ⟨p, 0, none⟩) ∧ Cur 86 w S p A c l bad ∧ Nf w A l
theorem Rd.only {w w' : World} {S T : Nat → Prop} {h : Value} {l : List Int} {bad : Bool} (x : Rd w S h l bad) (o : Only w w' T) (hd : ∀ i, S i → ¬ T i) (hp : ∀ i, Pt h i → ¬ T i) : Rd w' S h l bad := by
  rcases x with x | ⟨p, A, c, rfl, x, y⟩
  · exact .inl x
  · exact .inr ⟨p, A, c, rfl, x.only o hd (hp p rfl), y.only x.row o hd⟩
theorem Rd.below {w w' : World} {S : Nat → Prop} {h : Value} {l : List Int} {bad : Bool} (x : Rd w S h l bad) (k : Below w.heap.size w w') : Rd w' S h l bad := x.only (Only.of_below k (fun _ => False)) (fun _ _ h => h) (fun _ _ h => h)
theorem Rd.byt {w : World} {S : Nat → Prop} {h : Value} {l : List Int} {bad : Bool} (x : Rd w S h l bad) : ∀ x ∈ l, 0 ≤ x ∧ x < 256 := by
  rcases x with ⟨_, rfl, _⟩ | ⟨p, A, c, rfl, x, y⟩
  · simp
  · exact x.byt
theorem Rd.z {w : World} {S : Nat → Prop} {h : Value} {l : List Int} {bad : Bool} (x : Rd w S h l bad) : bad = true → l = [] := by
  rcases x with ⟨_, rfl, _⟩ | ⟨p, A, c, rfl, x, y⟩
  · simp
  · exact x.z
theorem Rd.max {w : World} {S : Nat → Prop} {h : Value} {l : List Int} {bad : Bool} (x : Rd w S h l bad) : l.length ≤ 9223372036854775807 := by
  rcases x with ⟨_, rfl, _⟩ | ⟨p, A, c, rfl, x, y⟩
  · simp
  · exact x.row.row.2.1
/-- What a reading call leaves. -/
structure RdTo (w w' : World) (S : Nat → Prop) (h : Value) (l : List Int) (bad : Bool) : Prop where
  rd : Rd w' S h l bad
  only : Only w w' (Pt h)
theorem RdTo.then_ {w w1 w2 : World} {S : Nat → Prop} {h : Value} {l l2 : List Int} {bad bad2 : Bool} (x : RdTo w w1 S h l bad) (y : RdTo w1 w2 S h l2 bad2) : RdTo w w2 S h l2 bad2 := ⟨y.rd, x.only.same y.only⟩
theorem RdTo.refl {w : World} {S : Nat → Prop} {h : Value} {l : List Int} {bad : Bool} (x : Rd w S h l bad) : RdTo w w S h l bad := ⟨x, Only.refl _ _⟩
/-- The cells of a row may have changed, nothing else. -/
structure Seg (w w' : World) (A : Option Addr) (n : Nat) : Prop where
  os : w'.os = w.os
  tape : w'.tape = w.tape
  output : w'.output = w.output
  size : w'.heap.size = w.heap.size
  block : ∀ i, (0 < n → ∀ a, A = some a → i ≠ a.block) → w'.heap[i]? = w.heap[i]?
  cell : ∀ a, A = some a → ∀ p : Addr, p.block = a.block → (∀ j, j < n → p ≠ a.add j) → w'.cell? p = w.cell? p
  kind : ∀ a, A = some a → ∀ cs t, w.heap[a.block]? = some (.cells cs t (0, 0)) → ∃ cs', w'.heap[a.block]? = some (.cells cs' t (0, 0))
theorem Seg.refl (w : World) (A : Option Addr) (n : Nat) : Seg w w A n := ⟨rfl, rfl, rfl, rfl, fun _ _ => rfl, fun _ _ _ _ _ => rfl, fun _ _ cs t h => ⟨cs, h⟩⟩
theorem Seg.only {w w' : World} {S : Nat → Prop} {A : Option Addr} {l : List Int} (x : Seg w w' A l.length) (r : Rb w S A l) : Only w w' S :=
  ⟨x.os, x.tape, x.output, by rw [x.size]; exact Nat.le_refl _, fun i _ hn => x.block i (fun hp a ha e => by subst e; exact hn (r.blk hp a ha))⟩
/-- A reader whose row lies apart from n cells at A. -/
def RdX (w : World) (S : Nat → Prop) (h : Value) (l : List Int) (bad : Bool) (A : Option Addr) (n : Nat) : Prop :=
  (h = .pointer none ∧ l = [] ∧ bad = true) ∨ ∃ p A2 c, h = .pointer (some ⟨p, 0, none⟩) ∧ Cur 86 w S p A2 c l bad ∧ Nf w A2 l ∧ (0 < n → ∀ a, A = some a → p ≠ a.block) ∧ (∀ ad a, A2 = some ad → A = some a → ∀ i, i < n → ∀ j, j < l.length → ad.add j ≠ a.add i)
theorem RdX.rd {w : World} {S : Nat → Prop} {h : Value} {l : List Int} {bad : Bool} {A : Option Addr} {n : Nat} (x : RdX w S h l bad A n) : Rd w S h l bad := by
  rcases x with x | ⟨p, A2, c, rfl, x, y, _⟩
  · exact .inl x
  · exact .inr ⟨p, A2, c, rfl, x, y⟩
theorem RdX.only {w w' : World} {S T : Nat → Prop} {h : Value} {l : List Int} {bad : Bool} {A : Option Addr} {n : Nat} (x : RdX w S h l bad A n) (o : Only w w' T) (hd : ∀ i, S i → ¬ T i) (hp : ∀ i, Pt h i → ¬ T i) : RdX w' S h l bad A n := by
  rcases x with x | ⟨p, A2, c, rfl, x, y, z1, z2⟩
  · exact .inl x
  · exact .inr ⟨p, A2, c, rfl, x.only o hd (hp p rfl), y.only x.row o hd, z1, z2⟩
theorem RdX.seg {w w' : World} {S : Nat → Prop} {h : Value} {l : List Int} {bad : Bool} {A : Option Addr} {n : Nat} (x : RdX w S h l bad A n) (sg : Seg w w' A n) : Rd w' S h l bad := by
  rcases x with x | ⟨p, A2, c, rfl, x, y, z1, z2⟩
  · exact .inl x
  · refine .inr ⟨p, A2, c, rfl, ⟨(sg.block p z1).trans x.str, x.len, ⟨C_cells_mono x.row.row (fun ad j he hj => ?_), x.row.blk⟩, x.ne, x.z, x.byt⟩, fun hp a ha => ?_⟩
    · rcases A with _ | a0
      · exact cell_same (sg.block ad.block (fun _ a h => by cases h)) _ (add_blk ad j)
      · by_cases hb : ad.block = a0.block
        · exact sg.cell a0 rfl _ (by rw [add_blk]; exact hb) (fun i hi e => z2 ad a0 he rfl i hi j hj e)
        · exact cell_same (sg.block ad.block (fun _ a h => by cases h; exact hb)) _ (add_blk ad j)
    · obtain ⟨q1, cs, q2⟩ := y hp a ha
      refine ⟨q1, ?_⟩
      rcases A with _ | a0
      · exact ⟨cs, (sg.block a.block (fun _ a h => by cases h)).trans q2⟩
      · by_cases hb : a.block = a0.block
        · rw [hb] at q2 ⊢
          exact sg.kind a0 rfl cs _ q2
        · exact ⟨cs, (sg.block a.block (fun _ a h => by cases h; exact hb)).trans q2⟩
/-- The parts of a row: what is taken, and what is left. -/
def tkS (n : Int) (l : List Int) (bad : Bool) : Option (List Int × List Int) := if bad = false ∧ 0 ≤ n ∧ n ≤ l.length then some (l.take n.toNat, l.drop n.toNat) else none
theorem tkS_some {n : Int} {l b r : List Int} {bad : Bool} (h : tkS n l bad = some (b, r)) : bad = false ∧ 0 ≤ n ∧ n ≤ l.length ∧ b = l.take n.toNat ∧ r = l.drop n.toNat := by
  unfold tkS at h
  split at h
  · rename_i hc
    simp only [Option.some.injEq, Prod.mk.injEq] at h
    exact ⟨hc.1, hc.2.1, hc.2.2, h.1.symm, h.2.symm⟩
  · cases h
theorem tkS_none {n : Int} {l : List Int} {bad : Bool} (h : tkS n l bad = none) : bad = true ∨ n < 0 ∨ n > l.length := by
  unfold tkS at h
  split at h
  · cases h
  · rename_i hc
    cases bad
    · simp only [true_and] at hc
      omega
    · exact .inl rfl
def byteS (l : List Int) (bad : Bool) : Int × List Int × Bool := match tkS 1 l bad with
  | some (b, r) => (rd b 0, r, false)
  | none => (0, [], true)
def sumN (b : List Int) : Nat → Int
  | 0 => 0
  | k + 1 => sumN b k + rd b k * 2 ^ (8 * k)
def unL (b : List Int) : Int := wrap64 (sumN b 8)
def numS (l : List Int) (bad : Bool) : Int × List Int × Bool := match tkS 8 l bad with
  | some (b, r) => (unL b, r, false)
  | none => (0, [], true)
def flagS (l : List Int) (bad : Bool) : Bool × List Int × Bool := if (byteS l bad).1 > 1 then (false, [], true) else (decide ((byteS l bad).1 = 1), (byteS l bad).2.1, (byteS l bad).2.2)
def bytesS (l : List Int) (bad : Bool) : List Int × List Int × Bool := match tkS (numS l bad).1 (numS l bad).2.1 (numS l bad).2.2 with
  | some (b, r) => (b, r, false)
  | none => ([], [], true)
def numsR : Nat → List Int → Bool → List Int × List Int × Bool
  | 0, l, bad => ([], l, bad)
  | k + 1, l, bad => ((numsR k l bad).1 ++ [(numS (numsR k l bad).2.1 (numsR k l bad).2.2).1], (numS (numsR k l bad).2.1 (numsR k l bad).2.2).2)
def numsS (l : List Int) (bad : Bool) : List Int × List Int × Bool :=
  if (numS l bad).1 < 0 ∨ (numS l bad).1 > (numS l bad).2.1.length / 8 then ([], [], true) else numsR (numS l bad).1.toNat (numS l bad).2.1 (numS l bad).2.2

-- AUX XW
/-- A writer of the call's own. -/
def wrR : Repr (List Int) := ⟨fun w S h l => Wr w S false h l, fun x k hd => x.only k hd⟩
theorem Cx.wr {B : Nat} {w0 w : World} {m : List Asr} {h : Value} {l : List Int} {P : Program} {f : FuncId} {args : Array Value} {l2 : List Int} {r : List Asr} (H : Cx B w0 w m) (k : At m (.own wrR h l) r)
    (hc : ∀ S : Nat → Prop, (∀ i, S i → B ≤ i) → Wr w S false h l → Calls P f args w (fun e w' => e = .returned (.tuple #[]) ∧ WrTo w w' S false h l2)) : Calls P f args w fun e w' => e = .returned (.tuple #[]) ∧ Cx B w0 w' (.own wrR h l2 :: r) := by
  obtain ⟨S, ha, hs, _, hcl⟩ := (H.find k).open_
  refine (hc S (fun i hi => (hs i hi).1) ha).mono ?_
  rintro e w' ⟨rfl, hx⟩
  exact ⟨rfl, hcl w' [.own wrR h l2] hx.only ⟨_, hx.wr, fun _ h => h, trivial⟩⟩
theorem Cx.wr_new {B : Nat} {w0 w : World} {m r : List Asr} {p : Nat} (H : Cx B w0 w m) (k : At m (.blk p (.cells #[.slice none 0 0] 60 (0, 0))) r) : Cx B w0 w (.own wrR (.pointer (some ⟨p, 0, none⟩)) [] :: r) := by
  obtain ⟨S, ha, hs, _, hcl⟩ := (H.find k).open_
  exact hcl w [.own wrR (.pointer (some ⟨p, 0, none⟩)) []] (Only.refl _ _) ⟨S, .inr ⟨rfl, p, _, rfl, ha.1, ha.2, Kd.R_nil _ _ _ _ _⟩, fun _ h => .inl h, trivial⟩
theorem wr_num {B : Nat} {w0 w : World} {m r : List Asr} {h : Value} {l : List Int} (n : Int) (H : Cx B w0 w m) (k : At m (.own wrR h l) r) (hl : l.length + 8 ≤ 140737488355328) (h1 : -9223372036854775808 ≤ n) (h2 : n ≤ 9223372036854775807) :
    Calls Try.prog 25 #[h, .int .i64 n] w fun e w' => e = .returned (.tuple #[]) ∧ Cx B w0 w' (.own wrR h (l ++ numL n) :: r) :=
  H.wr k (fun S _ ha => wire_Writer_Num.calls S false h l n w ha hl h1 h2)
theorem wr_out {B : Nat} {w0 w : World} {m r : List Asr} {h : Value} {l : List Int} (H : Cx B w0 w m) (k : At m (.own wrR h l) r) (hl : l.length < 140737488355328) :
    Calls Try.prog 27 #[h] w fun e w' => ∃ v, e = .returned v ∧ Cx B w0 w' (.own bytesR v l :: m) := by
  obtain ⟨S, ha, _⟩ := H.has k
  refine (wire_Writer_Out.calls S false h l w ha hl).mono ?_
  rintro e w' ⟨v, rfl, hr, hb⟩
  exact ⟨v, rfl, H.push hr hb⟩

/-! ### wire_Writer_Byte: function 24 -/
theorem wire_Writer_Byte.calls (S : Nat → Prop) (z : Bool) (h : Value) (l : List Int) (b : Int) (w : World) (hw : Wr w S z h l) (hl : l.length + 1 ≤ 140737488355328) :
    Calls Try.prog 24 #[h, .int .u8 b] w fun e w' => e = .returned (.tuple #[]) ∧ WrTo w w' S z h (app z l ([b])) := by
  have HW := Aside0.mk hw
  clear hw
  go_enter Try.func24, Try.ntmps24
  go_wp2_with fail
  have hc := C_lit w [b] (by simp) (0, 0)
  refine (wire_Writer_add.calls S z h l (some ⟨w.heap.size, 0, none⟩) 1 [b] _ (HW.out.below (below_alloc (Below.refl _ _) _)) hc (by simpa using hl)).mono ?_
  rintro e w1 ⟨rfl, hx⟩
  go_wp2
  go_end0
  exact ⟨rfl, hx.late (below_alloc (Below.refl _ _) _)⟩

-- AUX XWb
theorem wr_byte {B : Nat} {w0 w : World} {m r : List Asr} {h : Value} {l : List Int} (b : Int) (H : Cx B w0 w m) (k : At m (.own wrR h l) r) (hl : l.length + 1 ≤ 140737488355328) :
    Calls Try.prog 24 #[h, .int .u8 b] w fun e w' => e = .returned (.tuple #[]) ∧ Cx B w0 w' (.own wrR h (l ++ [b]) :: r) :=
  H.wr k (fun S _ ha => wire_Writer_Byte.calls S false h l b w ha hl)

/-! ### slices_Grow_byte_byte: function 40 -/
/-- Room for n bytes, in a row of its own. -/
theorem slices_Grow_byte_byte.calls (n : Nat) (hn : n ≤ 1000000) (w : World) :
    Calls Try.prog 40 #[.slice none 0 0, .int .i64 (n : Int)] w fun e w' => ∃ v, e = .returned v ∧ Kd.R (Kd.int .u8) 5 w' w.heap.size (fun _ => True) v [] ∧ Below w.heap.size w w' := by
  by_cases h0 : n = 0
  · subst h0
    go_enter Try.func40, Try.ntmps40
    go_wp2
    go_ret
    exact ⟨_, rfl, Kd.R_nil _ _ _ _ _, Below.refl _ _⟩
  · obtain ⟨i0, hi, hzz⟩ := Option.map_eq_some_iff.1 info5
    simp only [Prod.mk.injEq] at hzz
    obtain ⟨hz0, hz1, hz2⟩ := hzz
    have hrun := fun W : World => Lib.run_append_grow_zeros (P := Try.prog) W 22 3 22 5 i0 (.int .u8 0) .i64 .i64 Try.underlying22 Try.underlying3 hi hz0 none 0 0 [] (by simp [Builtin.firstCells]) n (by omega) (by omega) (by omega) (by omega) (by rw [hz2]; omega) (by rw [hz2]; simp [Builtin.nextslicecap]; split <;> omega)
    simp only [Nat.zero_add, Nat.sub_zero] at hrun
    have hpos : (0 : Int) < (n : Int) := by omega
    have hcap := grownCap_le_maxLen w n 0 5 (by unfold maxLen; omega)
    have hge := grownCap_ge w n 0 5
    have HCAP := Aside0.mk (And.intro hcap hge)
    clear hcap
    unfold maxLen at HCAP
    have hcap := HCAP.out.1
    clear hi hz0 hz1 hz2 h0
    have HRUN := Aside0.mk hrun
    clear hrun
    go_enter Try.func40, Try.ntmps40
    go_wp2_with ((with_reducible refine gate_builtin (b := .append) (xs := #[.tmp 20, .tmp 21]) rfl ?_); at_builtin; go_must (refine wpList_append_run rfl (.tmp 20) (.tmp 21) 22 3 rfl _ _ _ rfl rfl (HRUN.out w) ?_))
    go_ret
    exact ⟨_, rfl, Kd.R_of_own (enc := Value.int .u8) (h1 := fun _ => rfl) (World.ownsRow_made w.drew _ _ (Nat.le_refl _) hcap (by simp [Builtin.zeroCells, Value.cells]; omega)) (fun _ _ => trivial), below_alloc (below_drew (Below.refl _ _)) _⟩

/-! ### slices_Concat_byte_byte: function 26 -/
/-- How many bytes the first k rows have. -/
def flatN (ls : List (List Int)) (k : Nat) : Nat := (ls.take k).flatten.length
theorem flat_take_ (ls : List (List Int)) (k : Nat) (h : k < ls.length) : (ls.take (k + 1)).flatten = (ls.take k).flatten ++ ls[k] := by
  rw [List.take_succ_eq_append_getElem h, List.flatten_append]; simp
theorem flatN_succ (ls : List (List Int)) (k : Nat) (h : k < ls.length) : flatN ls (k + 1) = flatN ls k + ls[k].length := by
  unfold flatN
  rw [flat_take_ ls k h, List.length_append]
theorem flatN_le (ls : List (List Int)) (k : Nat) : flatN ls k ≤ ls.flatten.length := by
  have h := congrArg (fun l => l.flatten.length) (List.take_append_drop k ls)
  simp only [List.flatten_append, List.length_append] at h
  unfold flatN
  omega
theorem flatN_all (ls : List (List Int)) : flatN ls ls.length = ls.flatten.length := by simp [flatN]
def flatL (ls : List (List Int)) (k : Nat) : List Int := (ls.take k).flatten
/-- Rows one behind the other, in a row of its own. -/
theorem slices_Concat_byte_byte.calls (A : Option Addr) (c : Nat) (ls : List (List Int)) (w : World) (hr : Kd.C (Kd.slice 5 (Kd.int .u8)) w A ls.length ls) (hl : ls.flatten.length ≤ 1000000) (hn : ls.length ≤ 1000) :
    Calls Try.prog 26 #[.slice A ls.length c] w fun e w' => ∃ v, e = .returned v ∧ Cx w.heap.size w w' [.own bytesR v ls.flatten] := by
  have HR := Aside0.mk hr
  have HL := Aside0.mk hl
  clear hr hl
  have H0 := Cx.start w
  go_enter Try.func26, Try.ntmps26
  go_wp2
  go_loop [3, 11] (fun v3 v11 => ∃ i : Nat, i ≤ ls.length ∧ v11 = .int .i64 i ∧ v3 = .int .i64 (flatN ls i : Nat)) (fun _ v11 => ls.length - (intOf v11).toNat)
  case atStart => exact ⟨0, by omega, rfl, rfl⟩
  case round =>
    obtain ⟨i, hi, rfl, rfl⟩ := hrel
    by_cases hlt : i < ls.length
    · obtain ⟨ad, A', c', rfl, hx, hlc, hC⟩ := C_elem HR.out i hlt
      have HS := Aside0.mk (flatN_succ ls i hlt)
      have hb : flatN ls i + (ls[i]).length ≤ 1000000 := by have h1 := HS.out; have h2 := flatN_le ls (i + 1); have h3 := HL.out; omega
      clear hC
      generalize flatN ls i = q at *
      generalize (ls[i]).length = q2 at *
      go_wp2
      go_round
      case rel => exact ⟨i + 1, by omega, by go_num, by rw [HS.out]; go_num⟩
      case measure => simp [intOf]; omega
    · obtain rfl : i = ls.length := by omega
      have HA := Aside0.mk (flatN_all ls)
      have hb : flatN ls ls.length ≤ 1000000 := by have h1 := HA.out; have h3 := HL.out; omega
      generalize flatN ls ls.length = q at *
      go_wp2_with fail
      refine (slices_Grow_byte_byte.calls q hb w).mono ?_
      rintro e w1 ⟨v1, rfl, ho, hb1⟩
      have H1 := H0.push ho hb1
      clear ho hb1 H0
      go_wp2
      go_loopw [6, 27] (fun v6 v27 wr => ∃ i : Nat, i ≤ ls.length ∧ v27 = .int .i64 i ∧ Cx w.heap.size w wr [.own bytesR v6 (flatL ls i)]) (fun _ v27 _ => ls.length - (intOf v27).toNat)
      case atStart => exact ⟨0, by omega, rfl, H1⟩
      case round =>
        clear H1
        obtain ⟨j, hj, rfl, H2⟩ := hrel
        by_cases hlt : j < ls.length
        · obtain ⟨ad, A', c', rfl, hx, hlc, hC⟩ := C_elem (Kd.C_below HR.out H2.bel) j hlt
          have HC := Aside0.mk hC
          have HT := Aside0.mk (show flatL ls (j + 1) = flatL ls j ++ ls[j] from flat_take_ ls j hlt)
          have hb1 : (flatL ls j).length + (ls[j]).length ≤ 1000000 := by have h1 := flatN_succ ls j hlt; have h2 := flatN_le ls (j + 1); have h3 := HL.out; unfold flatN at *; unfold flatL; omega
          clear hC
          generalize flatL ls j = L at *
          generalize ls[j] = X at *
          go_wp2_with (((with_reducible refine gate_builtin (b := .append) (xs := #[.tmp 31, .tmp 32]) rfl ?_); at_builtin; (apply Cx.atList); (focus ((repeat (with_reducible (first | exact (H2).toS | exact At.here | apply At.there | apply CxS.drewN | apply CxS.drew | apply CxS.alloc | apply CxS.set | apply CxS.setRow))))); intro HT_; obtain ⟨ok_, hR_, hF_, hC_⟩ := HT_.grow (d := Kd.int .u8) (e := 5) (v := _) (xs := L) (by repeat (with_reducible (first | exact At.here | apply At.there))); (refine Kd.R_append_rows (Kd.int .u8) (w0 := _) 0 rfl (.tmp 31) (.tmp 32) 22 5 (.int .u8 0) 1 rfl Try.underlying22 info5 rfl (by decide) (by omega) (_) (L) (X) _ _ _ ok_ (fun _ => False) rfl rfl hR_ (HC.out) (fun _ _ h => h) (fun _ h => h.elim) hF_ (Below.refl _ _) (Nat.zero_le _) (by omega) ?_); intro v2 w1_ ho_ hb_ hg_ hat_; have H3 := hC_ _ _ _ ho_ hg_; clear ho_ hb_ hg_ hat_ hC_ hF_ hR_ HT_; skip))
          refine ⟨⟨j + 1, by omega, by go_num, by rw [HT.out]; exact H3⟩, by simp [intOf]; omega⟩
        · obtain rfl : j = ls.length := by omega
          obtain ⟨A6, c6, rfl, -⟩ := H2.slice (by repeat (with_reducible (first | exact At.here | apply At.there)))
          have HF := Aside0.mk (show flatL ls ls.length = ls.flatten by simp [flatL])
          go_wp2
          go_ret
          exact ⟨_, rfl, by rw [← HF.out]; exact H2⟩

/-! ### crc_table: function 47 -/
def tstep (x : Int) : Int := bits .xor .u32 (x / 2) (2197175160 * bits .and .u32 x 1 % 4294967296)
def tsteps : Nat → Int → Int
  | 0, x => x
  | m + 1, x => tstep (tsteps m x)
theorem tstep_bd (x : Int) (h : 0 ≤ x) (h1 : x < 4294967296) : 0 ≤ tstep x ∧ tstep x < 4294967296 := by
  unfold tstep
  have a : 0 ≤ bits .and .u32 x 1 ∧ bits .and .u32 x 1 < 4294967296 := by
    rw [u32_and x 1 h h1 (by decide) (by decide)]
    have := @Nat.and_le_left x.toNat (1 : Int).toNat
    omega
  have b : x / 2 < 4294967296 := by omega
  rw [u32_xor _ _ (by omega) b (by omega) (by omega)]
  have c := Nat.xor_lt_two_pow (n := 32) (x := (x / 2).toNat) (y := (2197175160 * bits .and .u32 x 1 % 4294967296).toNat) (by omega) (by omega)
  omega
theorem tsteps_bd (m : Nat) (x : Int) (h : 0 ≤ x) (h1 : x < 4294967296) : 0 ≤ tsteps m x ∧ tsteps m x < 4294967296 := by
  induction m with
  | zero => exact ⟨h, h1⟩
  | succ m ih => exact tstep_bd _ ih.1 ih.2
def tabL (k : Nat) : List Value := (List.range 16).map fun j => if j < k then .int .u32 (tsteps 4 j) else .int .u32 0
def tabA (k : Nat) : Array Value := (tabL k).toArray
theorem tabA_at (k : Nat) (h : k < 16) : (tabA k)[k]? = some (.int .u32 0) := by
  simp [tabA, tabL, h]
theorem tabA_set (k : Nat) (h : k < 16) (x : Int) (hx : x = tsteps 4 k) : (tabA k).setIfInBounds k (.int .u32 x) = tabA (k + 1) := by
  subst hx
  refine Array.ext_getElem? fun i => ?_
  simp only [tabA, tabL, Array.getElem?_setIfInBounds, List.getElem?_toArray, List.getElem?_map]
  by_cases e : k = i
  · subst e
    simp [h]
  · by_cases hi : i < 16
    · have : (i < k + 1) = (i < k) := by simp only [eq_iff_iff]; omega
      simp [e, hi, this]
    · simp [e, hi]
def tabV : Array Value := #[.int .u32 0, .int .u32 274646895, .int .u32 549293790, .int .u32 820201905, .int .u32 1098587580, .int .u32 1361435347, .int .u32 1640403810, .int .u32 1905808397, .int .u32 2197175160, .int .u32 2460548119, .int .u32 2722870694, .int .u32 2987750089, .int .u32 3280807620, .int .u32 3553878443, .int .u32 3811616794, .int .u32 4084100981]
theorem tabA_all : tabA 16 = #[.int .u32 0, .int .u32 274646895, .int .u32 549293790, .int .u32 820201905, .int .u32 1098587580, .int .u32 1361435347, .int .u32 1640403810, .int .u32 1905808397, .int .u32 2197175160, .int .u32 2460548119, .int .u32 2722870694, .int .u32 2987750089, .int .u32 3280807620, .int .u32 3553878443, .int .u32 3811616794, .int .u32 4084100981] := by kernel_rfl
set_option maxHeartbeats 400000 in
theorem crc_table_calls (w : World) : Calls Try.prog 47 #[] w fun e w' => e = .returned (.agg #[.int .u32 0, .int .u32 274646895, .int .u32 549293790, .int .u32 820201905, .int .u32 1098587580, .int .u32 1361435347, .int .u32 1640403810, .int .u32 1905808397, .int .u32 2197175160, .int .u32 2460548119, .int .u32 2722870694, .int .u32 2987750089, .int .u32 3280807620, .int .u32 3553878443, .int .u32 3811616794, .int .u32 4084100981]) ∧ w' = w.alloc (.cells #[.int .u32 0, .int .u32 274646895, .int .u32 549293790, .int .u32 820201905, .int .u32 1098587580, .int .u32 1361435347, .int .u32 1640403810, .int .u32 1905808397, .int .u32 2197175160, .int .u32 2460548119, .int .u32 2722870694, .int .u32 2987750089, .int .u32 3280807620, .int .u32 3553878443, .int .u32 3811616794, .int .u32 4084100981] 91) := by
  go_enter Try.func47, Try.ntmps47
  go_wp2
  go_loopw [3] (fun v3 wr => ∃ k : Nat, k ≤ 16 ∧ v3 = .int .i64 k ∧ wr = w.alloc (.cells (tabA k) 91)) (fun v3 _ => 16 - (intOf v3).toNat)
  case atStart => exact ⟨0, by omega, rfl, rfl⟩
  case round =>
    obtain ⟨k, hk, rfl, rfl⟩ := hrel
    by_cases hlt : k < 16
    · have htab := tabA_at k hlt
      go_wp2
      go_loop [8, 2] (fun v8 v2 => ∃ m : Nat, m ≤ 4 ∧ v8 = .int .i64 m ∧ v2 = .int .u32 (tsteps m k)) (fun v8 _ => 4 - (intOf v8).toNat)
      case atStart => exact ⟨0, by omega, rfl, rfl⟩
      case round =>
        obtain ⟨m, hm, rfl, rfl⟩ := hrel
        obtain ⟨hb1, hb2⟩ := tsteps_bd m k (by omega) (by omega)
        by_cases hlt2 : m < 4
        · go_wp2
          go_round
          case rel => exact ⟨m + 1, by omega, by go_num, rfl⟩
          case measure => simp [intOf]; omega
        · go_wp2
          exact ⟨⟨k + 1, by omega, by go_num, by rw [tabA_set k hlt _ (by rw [show m = 4 by omega])]⟩, by simp [intOf]; omega⟩
    · obtain rfl : k = 16 := by omega
      simp only [tabA_all]
      go_wp2
      exact bodyPost_ret (v := .agg tabV) (by simp [results, Try.results47, go_sem, tabV]) rfl ⟨rfl, rfl⟩

/-! ### crc_Go: function 41 -/
def crcTab : List Int := [0, 274646895, 549293790, 820201905, 1098587580, 1361435347, 1640403810, 1905808397, 2197175160, 2460548119, 2722870694, 2987750089, 3280807620, 3553878443, 3811616794, 4084100981]
def nib (x : Int) : Int := bits .xor .u32 (x / 16) (rd crcTab (bits .and .u32 x 15))
def nibs : Nat → Int → Int
  | 0, x => x
  | m + 1, x => nib (nibs m x)
def goStep (x c : Int) : Int := nibs 2 (bits .xor .u32 x c)
def inv32 (x : Int) : Int := bits .xor .u32 IntKind.u32.max x
def goI (a : Int) (l : List Int) : Int := inv32 (l.foldl goStep (inv32 a))
def crc_Go.f (a0 : Int) (l1 : List Int) : Option Int := if 0 ≤ a0 ∧ a0 < 4294967296 ∧ (∀ x ∈ l1, 0 ≤ x ∧ x < 256) then some (goI a0 l1) else none
def goW (w : World) : World := (w.alloc (.cells tabV 91)).alloc (.cells tabV 91)
theorem goW_cell (w : World) (n : Int) (h0 : 0 ≤ n) (h : n < 16) : (goW w).cell? ⟨w.heap.size + 1, n.toNat, none⟩ = some (.int .u32 (rd crcTab n)) := by
  obtain ⟨m, rfl⟩ := Int.eq_ofNat_of_zero_le h0
  have hm : m < 16 := by omega
  simp only [goW, Int.toNat_natCast, World.cell?, rd]
  have : (World.alloc (World.alloc w (.cells tabV 91)) (.cells tabV 91)).heap[w.heap.size + 1]? = some (.cells tabV 91) := by
    have := heap_alloc_new (w.alloc (.cells tabV 91)) (.cells tabV 91)
    simpa using this
  rw [this]
  have hv : ∀ m : Nat, m < 16 → tabV[m]? = some (.int .u32 (crcTab.getD m 0)) := by
    intro m hm
    simp only [tabV, crcTab]
    rcases m with _ | _ | _ | _ | _ | _ | _ | _ | _ | _ | _ | _ | _ | _ | _ | _ | m <;> first | rfl | omega
  simpa using hv m hm
theorem goW_below (w : World) : Below w.heap.size w (goW w) := by
  unfold goW
  exact below_alloc (below_alloc (Below.refl _ _) _) _
theorem and15 (x : Int) (h : 0 ≤ x) (h1 : x < 4294967296) : 0 ≤ bits .and .u32 x 15 ∧ bits .and .u32 x 15 < 16 := by
  rw [u32_and x 15 h h1 (by decide) (by decide)]
  have := @Nat.and_le_right x.toNat (15 : Int).toNat
  have : ((15 : Int).toNat : Int) = 15 := rfl
  omega
theorem crcTab_bd (n : Int) : 0 ≤ rd crcTab n ∧ rd crcTab n < 4294967296 := by
  have : ∀ x ∈ crcTab, 0 ≤ x ∧ x < 4294967296 := by decide
  unfold rd
  by_cases h : n.toNat < crcTab.length
  · rw [List.getD_eq_getElem?_getD, List.getElem?_eq_getElem h]; exact this _ (List.getElem_mem h)
  · rw [List.getD_eq_getElem?_getD, List.getElem?_eq_none (by omega)]; decide
theorem xor_bd (x y : Int) (h : 0 ≤ x) (h1 : x < 4294967296) (k : 0 ≤ y) (k1 : y < 4294967296) : 0 ≤ bits .xor .u32 x y ∧ bits .xor .u32 x y < 4294967296 := by
  rw [u32_xor _ _ h h1 k k1]
  have c := Nat.xor_lt_two_pow (n := 32) (x := x.toNat) (y := y.toNat) (by omega) (by omega)
  omega
theorem inv_bd (x : Int) (h : 0 ≤ x) (h1 : x < 4294967296) : 0 ≤ inv32 x ∧ inv32 x < 4294967296 := xor_bd _ _ (by decide) (by decide) h h1
theorem nib_bd (x : Int) (h : 0 ≤ x) (h1 : x < 4294967296) : 0 ≤ nib x ∧ nib x < 4294967296 :=
  xor_bd _ _ (by omega) (by omega) (crcTab_bd _).1 (crcTab_bd _).2
theorem nibs_bd (m : Nat) (x : Int) (h : 0 ≤ x) (h1 : x < 4294967296) : 0 ≤ nibs m x ∧ nibs m x < 4294967296 := by
  induction m with
  | zero => exact ⟨h, h1⟩
  | succ m ih => exact nib_bd _ ih.1 ih.2
theorem fold_bd (l : List Int) : ∀ (x : Int), 0 ≤ x → x < 4294967296 → (∀ c ∈ l, 0 ≤ c ∧ c < 256) → 0 ≤ l.foldl goStep x ∧ l.foldl goStep x < 4294967296 := by
  induction l with
  | nil => exact fun x h h1 _ => ⟨h, h1⟩
  | cons c l ih =>
    intro x h h1 hc
    have := hc c (by simp)
    obtain ⟨a, b⟩ := xor_bd x c h h1 (by omega) (by omega)
    obtain ⟨a, b⟩ := nibs_bd 2 _ a b
    exact ih _ a b (fun d hd => hc d (by simp [hd]))
theorem take_fold (l : List Int) (x : Int) (k : Nat) (h : k < l.length) : (l.take (k + 1)).foldl goStep x = nibs 2 (bits .xor .u32 ((l.take k).foldl goStep x) (rd l k)) := by
  have e : rd l k = l[k] := by simp [rd, h]
  rw [List.take_succ_eq_append_getElem h, List.foldl_append, e]; rfl
set_option maxHeartbeats 400000 in
set_option maxRecDepth 100000 in
theorem crc_Go.calls (a0 : Int) (A1 : Option Addr) (c1 : Nat) (l1 : List Int) (r : Int) (w : World) (hr1 : Kd.C (Kd.int .u8) w A1 l1.length l1) (_hc1 : l1.length ≤ c1) (h : crc_Go.f a0 l1 = some r) :
    Calls Try.prog 41 #[.int .u32 a0, .slice A1 l1.length c1] w fun e w' => e = .returned (.int .u32 r) ∧ Below w.heap.size w w' := by
  unfold crc_Go.f at h
  split at h
  case isFalse => cases h
  rename_i hp
  obtain ⟨ha0, ha1, hb⟩ := hp
  have HB := Aside0.mk hb
  have HR := Aside0.mk hr1
  have hm := Kd.C_max hr1
  obtain rfl := Option.some.inj h
  clear h hb hr1
  go_enter Try.func41, Try.ntmps41
  go_wp2_with (go_at_call 47; refine (crc_table_calls _).mono ?_; rintro e w' ⟨rfl, rfl⟩)
  change Code.wp _ _ _ _ (goW w)
  have HW := Aside0.mk (goW_cell w)
  have HRW := Aside0.mk (Kd.C_below HR.out (goW_below w))
  have hI := inv_bd a0 ha0 ha1
  obtain ⟨hI0, hI1⟩ := hI
  go_loop [14, 6] (fun v14 v6 => ∃ k : Nat, k ≤ l1.length ∧ v14 = .int .i64 k ∧ v6 = .int .u32 ((l1.take k).foldl goStep (inv32 a0))) (fun v14 _ => l1.length - (intOf v14).toNat)
  case atStart => exact ⟨0, by omega, rfl, rfl⟩
  case round =>
    obtain ⟨k, hk, rfl, rfl⟩ := hrel
    by_cases hlt : k < l1.length
    · obtain ⟨hx0, hx1⟩ := fold_bd (l1.take k) (inv32 a0) hI0 hI1 (fun c hc => HB.out c (List.mem_of_mem_take hc))
      have hrd : 0 ≤ rd l1 k ∧ rd l1 k < 256 := HB.out _ (by simp [rd, hlt])
      obtain ⟨hr0, hr1⟩ := hrd
      obtain ⟨ad, e, hx⟩ := Kd.at_int HRW.out k (by omega) (by omega)
      subst e
      simp only [Int.toNat_natCast] at hx
      have HT := Aside0.mk (take_fold l1 (inv32 a0) k hlt)
      go_wp2
      go_loop [22, 6] (fun v22 v6 => ∃ m : Nat, m ≤ 2 ∧ v22 = .int .i64 m ∧ v6 = .int .u32 (nibs m (bits .xor .u32 ((l1.take k).foldl goStep (inv32 a0)) (rd l1 k)))) (fun v22 _ => 2 - (intOf v22).toNat)
      case atStart => exact ⟨0, by omega, rfl, rfl⟩
      case round =>
        obtain ⟨m, hm2, rfl, rfl⟩ := hrel
        obtain ⟨hy0, hy1⟩ := xor_bd ((l1.take k).foldl goStep (inv32 a0)) (rd l1 k) hx0 hx1 hr0 (by omega)
        obtain ⟨hn0, hn1⟩ := nibs_bd m _ hy0 hy1
        by_cases hlt2 : m < 2
        · obtain ⟨hq0, hq1⟩ := and15 _ hn0 hn1
          have hcell := HW.out _ hq0 hq1
          clear hy0 hy1 hx hr0 hr1 hx0 hx1 hI0 hI1
          generalize hz : nibs m (bits BinOp.xor IntKind.u32 (List.foldl goStep (inv32 a0) (List.take k l1)) (rd l1 ↑k)) = z at *
          have HZ := Aside0.mk hz
          clear hz
          go_wp2
          refine ⟨⟨m + 1, by omega, by go_num, ?_⟩, by simp [intOf]; omega⟩
          show _ = Value.int .u32 (nib (nibs m _))
          rw [HZ.out]
          rfl
        · obtain rfl : m = 2 := by omega
          go_wp2
          go_round
          case rel => exact ⟨k + 1, by omega, by go_num, by rw [HT.out]⟩
          case measure => simp [intOf]; omega
    · go_wp2
      go_ret
      exact ⟨by rw [List.take_of_length_le (by omega)]; rfl, goW_below w⟩

-- AUX crcm
/-! The register as 32 bits: what a step does is linear. -/
def polyB : BitVec 32 := 2197175160#32
def stepB (x : BitVec 32) : BitVec 32 := (x >>> 1) ^^^ (if x.getLsbD 0 then polyB else 0#32)
def stepsB : Nat → BitVec 32 → BitVec 32
  | 0, x => x
  | m + 1, x => stepB (stepsB m x)
theorem stepB_xor (a b : BitVec 32) : stepB (a ^^^ b) = stepB a ^^^ stepB b := by
  unfold stepB
  rw [BitVec.ushiftRight_xor_distrib, BitVec.getLsbD_xor]
  cases a.getLsbD 0 <;> cases b.getLsbD 0 <;> simp
  · rw [BitVec.xor_assoc]
  · rw [BitVec.xor_assoc, BitVec.xor_assoc]; congr 1; rw [BitVec.xor_comm]
  · rw [BitVec.xor_assoc, ← BitVec.xor_assoc polyB, BitVec.xor_comm polyB, BitVec.xor_assoc, BitVec.xor_self, BitVec.xor_zero]
theorem stepsB_xor (m : Nat) (a b : BitVec 32) : stepsB m (a ^^^ b) = stepsB m a ^^^ stepsB m b := by
  induction m with
  | zero => rfl
  | succ m ih => show stepB _ = _; rw [ih, stepB_xor]; rfl
theorem stepsB_add (m n : Nat) (x : BitVec 32) : stepsB (m + n) x = stepsB m (stepsB n x) := by
  induction m with
  | zero => rw [Nat.zero_add]; rfl
  | succ m ih => rw [Nat.succ_add]; show stepB _ = stepB _; rw [ih]
theorem stepB_zero : stepB 0#32 = 0#32 := by decide
theorem stepB_eq_zero (x : BitVec 32) (h : stepB x = 0#32) : x = 0#32 := by
  unfold stepB at h
  have h31 : (x >>> 1 ^^^ (if x.getLsbD 0 then polyB else 0#32)).getLsbD 31 = false := by rw [h]; rfl
  have hp : polyB.getLsbD 31 = true := by decide
  rw [BitVec.getLsbD_xor, BitVec.getLsbD_ushiftRight, BitVec.getLsbD_of_ge x (1 + 31) (by decide)] at h31
  cases h0 : x.getLsbD 0 with
  | true => rw [h0, if_pos rfl, hp] at h31; simp at h31
  | false =>
    rw [h0] at h
    simp only [Bool.false_eq_true, if_false, BitVec.xor_zero] at h
    apply BitVec.eq_of_getLsbD_eq
    intro i hi
    rcases i with _ | i
    · rw [h0]; rfl
    · have := congrArg (fun z : BitVec 32 => z.getLsbD i) h
      simp only [BitVec.getLsbD_ushiftRight] at this
      rw [Nat.add_comm 1 i] at this
      rw [this]; simp
theorem stepsB_eq_zero (m : Nat) (x : BitVec 32) (h : stepsB m x = 0#32) : x = 0#32 := by
  induction m with
  | zero => exact h
  | succ m ih => exact ih (stepB_eq_zero _ h)
theorem stepsB_inj (m : Nat) (a b : BitVec 32) (h : stepsB m a = stepsB m b) : a = b := by
  have : stepsB m (a ^^^ b) = 0#32 := by rw [stepsB_xor, h, BitVec.xor_self]
  have := stepsB_eq_zero m _ this
  exact BitVec.xor_eq_zero_iff.1 this
/-- Bits below which there are noughts are shifted out. -/
theorem stepB_even (x : BitVec 32) (h : x.getLsbD 0 = false) : stepB x = x >>> 1 := by
  unfold stepB; rw [h]; simp
theorem stepsB_shl (m : Nat) : ∀ (y : BitVec 32), m ≤ 32 → (∀ i, 32 - m ≤ i → y.getLsbD i = false) → stepsB m (y <<< m) = y := by
  induction m with
  | zero => intro y _ _; show y <<< 0 = y; simp
  | succ m ih =>
    intro y hm hy
    rw [show m + 1 = m + 1 from rfl, stepsB_add m 1]
    have e : stepsB 1 (y <<< (m + 1)) = y <<< m := by
      show stepB (y <<< (m + 1)) = _
      rw [stepB_even _ (by simp)]
      apply BitVec.eq_of_getLsbD_eq
      intro i hi
      rw [BitVec.getLsbD_ushiftRight, BitVec.getLsbD_shiftLeft, BitVec.getLsbD_shiftLeft]
      by_cases h1 : 1 + i < 32
      · have a1 : decide (1 + i < 32) = true := decide_eq_true h1
        have a2 : decide (i < 32) = true := decide_eq_true hi
        have a3 : decide (1 + i < m + 1) = decide (i < m) := by rw [decide_eq_decide]; omega
        rw [a1, a2, a3, show 1 + i - (m + 1) = i - m by omega]
      · have a1 : decide (1 + i < 32) = false := decide_eq_false h1
        rw [a1]
        have : y.getLsbD (i - m) = false := hy _ (by omega)
        rw [this]; simp
    rw [e]
    exact ih y (by omega) (fun i hi => by
      by_cases h : i = 32 - (m + 1)
      · exact hy i (by omega)
      · exact hy i (by omega))

/-! From whole numbers to bits. -/
theorem bv_toNat (x : Int) (h0 : 0 ≤ x) (h1 : x < 4294967296) : (((BitVec.ofInt 32 x).toNat : Nat) : Int) = x := by
  obtain ⟨n, rfl⟩ := Int.eq_ofNat_of_zero_le h0
  rw [ofInt_u32 n (by omega)]
theorem xor_b (a b : BitVec 32) : bits .xor .u32 (a.toNat : Int) (b.toNat : Int) = ((a ^^^ b).toNat : Int) := by
  rw [u32_xor_nat _ _ a.isLt b.isLt, BitVec.toNat_xor]
theorem tstep_b (a : BitVec 32) : tstep (a.toNat : Int) = ((stepB a).toNat : Int) := by
  unfold tstep stepB
  have e1 : bits .and .u32 (a.toNat : Int) 1 = ((a.toNat % 2 : Nat) : Int) := by
    rw [show (1 : Int) = ((1 : Nat) : Int) from rfl, u32_and_nat _ _ a.isLt (by decide), nat_mask1]
  have e2 : (a.toNat : Int) / (2 : Int) = ((a >>> 1).toNat : Int) := by
    rw [BitVec.toNat_ushiftRight, Nat.shiftRight_eq_div_pow]; omega
  have e3 : 2197175160 * bits .and .u32 (a.toNat : Int) 1 % 4294967296 = ((if a.getLsbD 0 then polyB else 0#32).toNat : Int) := by
    rw [e1]
    have : a.getLsbD 0 = decide (a.toNat % 2 = 1) := by
      rw [BitVec.getLsbD, Nat.testBit_zero]
    rw [this]
    by_cases h : a.toNat % 2 = 1
    · simp [h, polyB]
    · have : a.toNat % 2 = 0 := by omega
      simp [this]
  rw [e2, e3, xor_b]
theorem tsteps_b (m : Nat) (a : BitVec 32) : tsteps m (a.toNat : Int) = ((stepsB m a).toNat : Int) := by
  induction m with
  | zero => rfl
  | succ m ih => show tstep _ = _; rw [ih, tstep_b]; rfl
theorem crcTab_b : ∀ n : Fin 16, rd crcTab (n.val : Int) = ((stepsB 4 (BitVec.ofNat 32 n.val)).toNat : Int) := by decide
theorem low_high (a : BitVec 32) : a = (a &&& 15#32) ^^^ ((a >>> 4) <<< 4) := by
  apply BitVec.eq_of_getLsbD_eq
  intro i hi
  rw [BitVec.getLsbD_xor, BitVec.getLsbD_and, BitVec.getLsbD_shiftLeft, BitVec.getLsbD_ushiftRight]
  have a1 : decide (i < 32) = true := decide_eq_true hi
  rw [a1]
  by_cases h : i < 4
  · have : i = 0 ∨ i = 1 ∨ i = 2 ∨ i = 3 := by omega
    rcases this with rfl | rfl | rfl | rfl <;> simp
  · have a2 : decide (i < 4) = false := decide_eq_false h
    have a3 : (15#32).getLsbD i = false := by
      have : (15#32).toNat.testBit i = false := Nat.testBit_lt_two_pow (Nat.lt_of_lt_of_le (show (15#32).toNat < 2 ^ 4 by decide) (Nat.pow_le_pow_right (by decide) (by omega)))
      exact this
    rw [a2, a3, show 4 + (i - 4) = i by omega]
    simp
theorem nib_b (a : BitVec 32) : nib (a.toNat : Int) = ((stepsB 4 a).toNat : Int) := by
  unfold nib
  have e1 : bits .and .u32 (a.toNat : Int) 15 = ((a &&& 15#32).toNat : Int) := by
    rw [show (15 : Int) = (((15#32).toNat : Nat) : Int) from rfl, u32_and_nat _ _ a.isLt (15#32).isLt, BitVec.toNat_and]
  have hlt : (a &&& 15#32).toNat < 16 := by
    rw [BitVec.toNat_and]
    exact Nat.lt_of_le_of_lt Nat.and_le_right (by decide)
  have e2 : (a.toNat : Int) / (16 : Int) = ((a >>> 4).toNat : Int) := by
    rw [BitVec.toNat_ushiftRight, Nat.shiftRight_eq_div_pow]; omega
  have e3 := crcTab_b ⟨(a &&& 15#32).toNat, hlt⟩
  simp only [BitVec.ofNat_toNat, BitVec.setWidth_eq] at e3
  rw [e1, e2, e3, xor_b]
  congr 2
  conv => rhs; rw [low_high a]
  rw [stepsB_xor, BitVec.xor_comm]
  congr 1
  symm
  apply stepsB_shl 4 (a >>> 4) (by decide)
  intro i hi
  rw [BitVec.getLsbD_ushiftRight]
  exact BitVec.getLsbD_of_ge _ _ (by omega)
theorem nibs_b (a : BitVec 32) : nibs 2 (a.toNat : Int) = ((stepsB 8 a).toNat : Int) := by
  show nib (nib ((a.toNat : Nat) : Int)) = ((stepsB (4 + 4) a).toNat : Int)
  rw [nib_b, nib_b, ← stepsB_add]
/-- The register behind bytes. -/
def regB (x : BitVec 32) (l : List (BitVec 32)) : BitVec 32 := l.foldl (fun x c => stepsB 8 (x ^^^ c)) x
def bvs (l : List Int) : List (BitVec 32) := l.map (BitVec.ofInt 32)
def IsBytes (l : List Int) : Prop := ∀ x ∈ l, 0 ≤ x ∧ x < 256
theorem fold_b (l : List Int) : ∀ (x : BitVec 32), IsBytes l → l.foldl goStep (x.toNat : Int) = ((regB x (bvs l)).toNat : Int) := by
  induction l with
  | nil => exact fun x _ => rfl
  | cons c l ih =>
    intro x h
    have hc := h c (by simp)
    have e : goStep (x.toNat : Int) c = ((stepsB 8 (x ^^^ BitVec.ofInt 32 c)).toNat : Int) := by
      unfold goStep
      conv => lhs; rw [← bv_toNat c hc.1 (by omega)]
      rw [xor_b, nibs_b]
    show List.foldl goStep (goStep _ c) l = _
    rw [e, ih _ (fun y hy => h y (by simp [hy]))]
    rfl
def ones : BitVec 32 := 4294967295#32
theorem inv_b (x : BitVec 32) : inv32 (x.toNat : Int) = ((ones ^^^ x).toNat : Int) := by
  unfold inv32
  rw [show IntKind.u32.max = ((ones.toNat : Nat) : Int) from by decide, xor_b]
theorem goI_b (x : BitVec 32) (l : List Int) (h : IsBytes l) : goI (x.toNat : Int) l = ((ones ^^^ regB (ones ^^^ x) (bvs l)).toNat : Int) := by
  unfold goI
  rw [inv_b, fold_b _ _ h, inv_b]
theorem regB_append (x : BitVec 32) (l m : List (BitVec 32)) : regB x (l ++ m) = regB (regB x l) m := by simp [regB]
theorem regB_xor (l : List (BitVec 32)) : ∀ (m : List (BitVec 32)) (a b : BitVec 32), l.length = m.length → regB (a ^^^ b) (l.zipWith (· ^^^ ·) m) = regB a l ^^^ regB b m := by
  induction l with
  | nil => intro m a b h; cases m with | nil => rfl | cons _ _ => simp at h
  | cons c l ih =>
    intro m a b h
    cases m with
    | nil => simp at h
    | cons d m =>
      show regB (stepsB 8 (a ^^^ b ^^^ (c ^^^ d))) (l.zipWith (· ^^^ ·) m) = regB (stepsB 8 (a ^^^ c)) l ^^^ regB (stepsB 8 (b ^^^ d)) m
      rw [← ih m _ _ (by simpa using h), ← stepsB_xor]
      congr 2
      rw [BitVec.xor_assoc, ← BitVec.xor_assoc b, BitVec.xor_comm b c, BitVec.xor_assoc, ← BitVec.xor_assoc]
theorem regB_inj (l : List (BitVec 32)) : ∀ (a b : BitVec 32), regB a l = regB b l → a = b := by
  induction l with
  | nil => exact fun a b h => h
  | cons c l ih =>
    intro a b h
    have := stepsB_inj 8 _ _ (ih _ _ h)
    have e : a ^^^ c ^^^ c = b ^^^ c ^^^ c := by rw [this]
    rwa [BitVec.xor_assoc, BitVec.xor_self, BitVec.xor_zero, BitVec.xor_assoc, BitVec.xor_self, BitVec.xor_zero] at e
theorem xor_cancel (a b c : BitVec 32) (h : a ^^^ b = a ^^^ c) : b = c := by
  have e : a ^^^ (a ^^^ b) = a ^^^ (a ^^^ c) := by rw [h]
  rwa [← BitVec.xor_assoc, ← BitVec.xor_assoc, BitVec.xor_self, BitVec.zero_xor, BitVec.zero_xor] at e

/-! ### crc_Sum: function 28 -/
/-- The sum of parts. -/
def sumI (ls : List (List Int)) : Int := ls.foldl goI 0
def crc_Sum.f (l0 : List (List Int)) : Option Int := if ∀ l ∈ l0, ∀ x ∈ l, 0 ≤ x ∧ x < 256 then some (sumI l0) else none
theorem goI_bd (a : Int) (l : List Int) (h : 0 ≤ a) (h1 : a < 4294967296) (hl : ∀ x ∈ l, 0 ≤ x ∧ x < 256) : 0 ≤ goI a l ∧ goI a l < 4294967296 := by
  obtain ⟨p, q⟩ := inv_bd a h h1
  obtain ⟨p, q⟩ := fold_bd l _ p q hl
  exact inv_bd _ p q
theorem sumI_bd (ls : List (List Int)) : ∀ (a : Int), 0 ≤ a → a < 4294967296 → (∀ l ∈ ls, ∀ x ∈ l, 0 ≤ x ∧ x < 256) → 0 ≤ ls.foldl goI a ∧ ls.foldl goI a < 4294967296 := by
  induction ls with
  | nil => exact fun a h h1 _ => ⟨h, h1⟩
  | cons l ls ih =>
    intro a h h1 hl
    obtain ⟨p, q⟩ := goI_bd a l h h1 (hl l (by simp))
    exact ih _ p q (fun m hm => hl m (by simp [hm]))
theorem take_sum (ls : List (List Int)) (a : Int) (k : Nat) (h : k < ls.length) : (ls.take (k + 1)).foldl goI a = goI ((ls.take k).foldl goI a) ls[k] := by
  rw [List.take_succ_eq_append_getElem h, List.foldl_append]; rfl
set_option maxHeartbeats 400000 in
set_option maxRecDepth 100000 in
theorem crc_Sum.calls (A0 : Option Addr) (c0 : Nat) (l0 : List (List Int)) (r : Int) (w : World) (hr0 : Kd.C (Kd.slice 5 (Kd.int .u8)) w A0 l0.length l0) (_hc0 : l0.length ≤ c0) (h : crc_Sum.f l0 = some r) :
    Calls Try.prog 28 #[.slice A0 l0.length c0] w fun e w' => e = .returned (.int .u32 r) ∧ Below w.heap.size w w' := by
  unfold crc_Sum.f at h
  split at h
  case isFalse => cases h
  rename_i hp
  obtain rfl := Option.some.inj h
  have HP := Aside0.mk hp
  have HR := Aside0.mk hr0
  have hm := Kd.C_max hr0
  clear h hr0 hp
  go_enter Try.func28, Try.ntmps28
  go_wp2
  go_loopw [8, 3] (fun v8 v3 wr => ∃ k : Nat, k ≤ l0.length ∧ v8 = .int .i64 k ∧ v3 = .int .u32 ((l0.take k).foldl goI 0) ∧ Aside0 (Below w.heap.size w wr)) (fun v8 _ _ => l0.length - (intOf v8).toNat)
  case atStart => exact ⟨0, by omega, rfl, rfl, ⟨Below.refl _ _⟩⟩
  case round =>
    obtain ⟨k, hk, rfl, rfl, HB⟩ := hrel
    by_cases hlt : k < l0.length
    · obtain ⟨ad, A', c', e, hx, hc', hC⟩ := C_elem (Kd.C_below HR.out HB.out) k hlt
      subst e
      obtain ⟨hx0, hx1⟩ := sumI_bd (l0.take k) 0 (by decide) (by decide) (fun l hl => HP.out l (List.mem_of_mem_take hl))
      have HT := Aside0.mk (take_sum l0 0 k hlt)
      have hby := HP.out l0[k] (List.getElem_mem hlt)
      have HG := Aside0.mk (crc_Go.calls ((l0.take k).foldl goI 0) A' c' l0[k] (goI ((l0.take k).foldl goI 0) l0[k]) wr hC hc' (if_pos ⟨hx0, hx1, hby⟩))
      clear hby hC hc'
      generalize l0[k] = lk at *
      generalize hz : List.foldl goI 0 (List.take k l0) = z at *
      have HZ := Aside0.mk hz
      clear hz
      go_wp2_with (go_at_call 41; refine (HG.out).mono ?_; rintro e w' ⟨rfl, hb⟩; have HB2 := Aside0.mk (below_step HB.out hb); clear hb)
      go_roundw
      case rel => exact ⟨k + 1, by omega, by go_num, by rw [HT.out], HB2⟩
      case measure => simp [intOf]; omega
    · go_wp2
      go_ret
      exact ⟨by rw [List.take_of_length_le (by omega)]; rfl, HB.out⟩

-- AUX crcn
theorem u8_xor_bd (x y : Int) (h : 0 ≤ x) (h1 : x < 256) (k : 0 ≤ y) (k1 : y < 256) : 0 ≤ bits .xor .u8 x y ∧ bits .xor .u8 x y < 256 := by
  rw [u8_xor _ _ h h1 k k1]
  have c := Nat.xor_lt_two_pow (n := 8) (x := x.toNat) (y := y.toNat) (by omega) (by omega)
  omega
theorem u8_xor_bv (x y : Int) (h : 0 ≤ x) (h1 : x < 256) (k : 0 ≤ y) (k1 : y < 256) : BitVec.ofInt 32 (bits .xor .u8 x y) = BitVec.ofInt 32 x ^^^ BitVec.ofInt 32 y := by
  obtain ⟨a, rfl⟩ := Int.eq_ofNat_of_zero_le h
  obtain ⟨b, rfl⟩ := Int.eq_ofNat_of_zero_le k
  rw [u8_xor_nat a b (by omega) (by omega)]
  apply BitVec.eq_of_toNat_eq
  rw [BitVec.toNat_xor, ofInt_u32 a (by omega), ofInt_u32 b (by omega), ofInt_u32 _ (Nat.lt_of_lt_of_le (Nat.xor_lt_two_pow (n := 8) (by omega) (by omega)) (by decide))]
/-- Four bytes by four bytes of a number, from noughts on: the register is the number, led over 32 bits. -/
theorem four_b (b : Int) (h : 0 ≤ b) (h1 : b < 4294967296) :
    regB 0#32 [BitVec.ofInt 32 (b / 2 ^ (8 * 0) % 256), BitVec.ofInt 32 (b / 2 ^ (8 * 1) % 256), BitVec.ofInt 32 (b / 2 ^ (8 * 2) % 256), BitVec.ofInt 32 (b / 2 ^ (8 * 3) % 256)] = stepsB 32 (BitVec.ofInt 32 b) := by
  obtain ⟨n, rfl⟩ := Int.eq_ofNat_of_zero_le h
  have hn : n < 4294967296 := by omega
  -- the number's rest behind j bytes: its low byte and what is above it
  have part : ∀ m : Nat, m < 4294967296 → BitVec.ofNat 32 m = BitVec.ofNat 32 (m % 256) ^^^ (BitVec.ofNat 32 (m / 256) <<< 8) := by
    intro m hm
    apply BitVec.eq_of_toNat_eq
    rw [BitVec.toNat_xor, BitVec.toNat_shiftLeft, BitVec.toNat_ofNat, BitVec.toNat_ofNat, BitVec.toNat_ofNat, Nat.mod_eq_of_lt hm, Nat.mod_eq_of_lt (show m % 256 < 2 ^ 32 by omega), Nat.mod_eq_of_lt (show m / 256 < 2 ^ 32 by omega), Nat.shiftLeft_eq, Nat.mod_eq_of_lt (show m / 256 * 2 ^ 8 < 2 ^ 32 by omega)]
    have hd : m % 256 &&& m / 256 * 2 ^ 8 = 0 := by
      apply Nat.eq_of_testBit_eq
      intro i
      rw [Nat.testBit_and, Nat.zero_testBit, Nat.testBit_mul_two_pow]
      by_cases hi : 8 ≤ i
      · rw [Nat.testBit_lt_two_pow (Nat.lt_of_lt_of_le (show m % 256 < 2 ^ 8 by omega) (Nat.pow_le_pow_right (by decide) hi))]; rfl
      · have : decide (8 ≤ i) = false := decide_eq_false hi
        simp [this]
    have hj := nat_join 8 (m / 256 * 2 ^ 8) (m % 256) (by omega) (by omega)
    have hx : m % 256 ^^^ m / 256 * 2 ^ 8 = m % 256 ||| m / 256 * 2 ^ 8 := by
      apply Nat.eq_of_testBit_eq
      intro i
      have := congrArg (fun z => z.testBit i) hd
      simp only [Nat.testBit_and, Nat.zero_testBit] at this
      rw [Nat.testBit_xor, Nat.testBit_or]
      revert this
      generalize (m % 256).testBit i = A
      generalize (m / 256 * 2 ^ 8).testBit i = B
      cases A <;> cases B <;> simp
    rw [hx, Nat.or_comm, hj]
    omega
  have lead : ∀ m : Nat, m < 4294967296 → stepsB 8 (BitVec.ofNat 32 (m % 256)) = stepsB 8 (BitVec.ofNat 32 m) ^^^ BitVec.ofNat 32 (m / 256) := by
    intro m hm
    conv => rhs; rw [part m hm]
    rw [stepsB_xor, stepsB_shl 8 _ (by decide), BitVec.xor_assoc, BitVec.xor_self, BitVec.xor_zero]
    intro i hi
    show (BitVec.ofNat 32 (m / 256)).toNat.testBit i = false
    rw [BitVec.toNat_ofNat, Nat.mod_eq_of_lt (show m / 256 < 2 ^ 32 by omega)]
    exact Nat.testBit_lt_two_pow (Nat.lt_of_lt_of_le (show m / 256 < 2 ^ 24 by omega) (Nat.pow_le_pow_right (by decide) hi))
  have e : ∀ j : Nat, BitVec.ofInt 32 ((n : Int) / 2 ^ j % 256) = BitVec.ofNat 32 (n / 2 ^ j % 256) := by
    intro j
    rw [show (n : Int) / 2 ^ j % 256 = ((n / 2 ^ j % 256 : Nat) : Int) by simp]
    exact BitVec.ofInt_natCast ..
  -- one step: a register that is the number led on, but for its rest
  have step : ∀ (x y : BitVec 32) (m : Nat), m < 4294967296 → x = y ^^^ BitVec.ofNat 32 m → stepsB 8 (x ^^^ BitVec.ofNat 32 (m % 256)) = stepsB 8 y ^^^ BitVec.ofNat 32 (m / 256) := by
    intro x y m hm hx
    rw [stepsB_xor, lead m hm, hx, stepsB_xor, BitVec.xor_assoc, ← BitVec.xor_assoc (stepsB 8 (BitVec.ofNat 32 m)), BitVec.xor_self, BitVec.zero_xor]
  show stepsB 8 (stepsB 8 (stepsB 8 (stepsB 8 (0#32 ^^^ _) ^^^ _) ^^^ _) ^^^ _) = _
  rw [e, e, e, e, BitVec.ofInt_natCast]
  have s1 := step 0#32 (BitVec.ofNat 32 n) n hn (by rw [BitVec.xor_self])
  have s2 := step _ _ (n / 256) (by omega) s1
  have s3 := step _ _ (n / 256 / 256) (by omega) s2
  have s4 := step _ _ (n / 256 / 256 / 256) (by omega) s3
  rw [show n / 2 ^ (8 * 0) = n by simp, show n / 2 ^ (8 * 1) = n / 256 by simp, show n / 2 ^ (8 * 2) = n / 256 / 256 by rw [Nat.div_div_eq_div_mul], show n / 2 ^ (8 * 3) = n / 256 / 256 / 256 by rw [Nat.div_div_eq_div_mul, Nat.div_div_eq_div_mul]]
  rw [s4, show n / 256 / 256 / 256 / 256 = 0 by omega]
  rw [show BitVec.ofNat 32 0 = 0#32 from rfl, BitVec.xor_zero, ← stepsB_add, ← stepsB_add, ← stepsB_add]
theorem sum1_b (l : List Int) (h : IsBytes l) : sumI [l] = ((ones ^^^ regB ones (bvs l)).toNat : Int) := by
  show goI 0 l = _
  have := goI_b 0#32 l h
  rw [BitVec.xor_zero] at this
  exact this
theorem bv_inj (a b : BitVec 32) (h : ((a.toNat : Nat) : Int) = ((b.toNat : Nat) : Int)) : a = b := BitVec.eq_of_toNat_eq (by omega)

end Go.Proofs.Ytgnpmephgdghhaa.Hp
