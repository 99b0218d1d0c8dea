/- Contracts of functions of the given program, and what they lean on: written by this session's own program, out of hand texts laid into the kit's printer. -/
import Derived.Test.YtibpbihcbgcedaaHp0
import Derived.Deep.DeepMust
namespace Go.Proofs.Ytibpbihcbgcedaa.Hp
open Go.RowKit Go.Proofs.YtibpbihcbgcedaaW.PrintWords Go.Proofs.YtibpbihcbgcedaaW.PrintLast Go.Proofs.YtibpbihcbgcedaaW.PrintMore
attribute [local go_sem] max2_int min2_int max_two min_two max_three min_three max_four min_four   -- for this text's walks alone
set_option linter.unusedVariables false
set_option linter.unusedSimpArgs false

-- AUX C
-- Words of this session for texts walked by hand: rows of bytes that are made with room, slices of slices.
theorem wf_i64 {n : Int} (h : (Lit.int .i64 n).wf = true) : -9223372036854775808 ≤ n ∧ n ≤ 9223372036854775807 := by
  simp [Lit.wf, IntKind.min, IntKind.max, IntKind.signed, IntKind.bits] at h
  omega
theorem wf_u32 {n : Int} (h : (Lit.int .u32 n).wf = true) : 0 ≤ n ∧ n < 4294967296 := by
  simp [Lit.wf, IntKind.min, IntKind.max, IntKind.signed, IntKind.bits] at h
  omega
theorem wf_u8 {n : Int} (h : (Lit.int .u8 n).wf = true) : 0 ≤ n ∧ n < 256 := by
  simp [Lit.wf, IntKind.min, IntKind.max, IntKind.signed, IntKind.bits] at h
  omega
theorem wfs_u8 {l : List Int} (h : ∀ n ∈ l, (Lit.int .u8 n).wf = true) : ∀ n ∈ l, 0 ≤ n ∧ n < 256 := fun n hn => wf_u8 (h n hn)
theorem const_bytes (w : World) (C : Array Value) (n c : Nat) : (convert 26 26 (.slice (some ⟨w.heap.size, 0, none⟩) n c)).run Try.prog (w.alloc (.cells C 5)) = .ok (.slice (some ⟨w.heap.size, 0, none⟩) n c) (w.alloc (.cells C 5 (C.size, C.size + 1))) := Lib.run_convert_bytes_const w _ _ C n c Try.underlying26 Try.underlying5
theorem const_bytes2 (w : World) (o : Obj) (C : Array Value) (n c : Nat) : (convert 26 26 (.slice (some ⟨w.heap.size + 1, 0, none⟩) n c)).run Try.prog ((w.alloc o).alloc (.cells C 5)) = .ok (.slice (some ⟨w.heap.size + 1, 0, none⟩) n c) ((w.alloc o).alloc (.cells C 5 (C.size, C.size + 1))) := by
  simpa using const_bytes (w.alloc o) C n c
/-- A block whose cells are read as a row of elements of one cell each. -/
theorem C_block {α : Type} (d : Kd α) (h1 : d.sz = 1) {w : World} {g : Nat} {cs : Array Value} {e : Nat} {fr : Nat × Nat} (hb : w.heap[g]? = some (.cells cs e fr)) (xs : List α) (hl : xs.length ≤ 9223372036854775807)
    (hK : ∀ (j : Nat) (x : α), xs[j]? = some x → ∃ v, cs[j]? = some v ∧ d.K w x [v]) : d.C w (some ⟨g, 0, none⟩) xs.length xs := by
  refine ⟨rfl, hl, fun _ => ⟨_, rfl, fun j p hj => ?_⟩⟩
  obtain ⟨v, hv, hk⟩ := hK j p hj
  refine ⟨[v], by rw [h1]; rfl, hk, fun i u hu => ?_⟩
  rcases i with _ | i
  · simp only [List.getElem?_cons_zero, Option.some.injEq] at hu
    subst hu
    rw [h1, Nat.mul_one, Nat.add_zero, add_plain]
    simp [World.cell?, hb, hv]
  · simp at hu
/-- An element of a row of rows of bytes. -/
theorem C_elem {k : IntKind} {e n : Nat} {w : World} {A : Option Addr} {ls : List (List Int)} (h : Kd.C (Kd.slice e (Kd.int k)) w A n ls) (i : Nat) (hi : i < ls.length) :
    ∃ (ad : Addr) (A' : Option Addr) (c' : Nat), A = some ad ∧ w.cell? (ad.add i) = some (.slice A' (ls[i]).length c') ∧ (ls[i]).length ≤ c' ∧ Kd.C (Kd.int k) w A' (ls[i]).length ls[i] := by
  have hn := h.1
  obtain ⟨ad, cs, e, hl, hk, hc⟩ := ReadsRow.get_ h [] (i : Int) (by omega) (by omega)
  obtain ⟨A', c', rfl, hl', hC⟩ := hk
  have := hc 0 _ rfl
  simp only [Int.toNat_natCast, Kd.slice, Nat.mul_one, Nat.add_zero] at this
  have eq : ls.getD ((i : Int).toNat) [] = ls[i] := by simp [hi]
  simp only [Int.toNat_natCast] at eq hl' hC
  rw [eq] at this hl' hC
  exact ⟨ad, A', c', e, this, hl', hC⟩
theorem make_bytes (W : World) (n : Nat) (hn : n ≤ 1000000) : (Instr.makeSlice 26 (.int .i64 0) (.int .i64 (n : Int))).run Try.prog W = .ok (.slice (some ⟨W.heap.size, 0, none⟩) 0 n) (W.alloc (.cells (madeCells #[.int .u8 0] n) 5)) := by
  obtain ⟨i0, hi, hzz⟩ := Option.map_eq_some_iff.1 info5
  simp only [Prod.mk.injEq] at hzz
  obtain ⟨hz0, hz1, hz2⟩ := hzz
  have h := run_make (P := Try.prog) W 26 5 i0 (.int .u8 0) Try.underlying26 hi hz0 .i64 .i64 0 n (by omega) (by omega) (by rw [hz2]; omega) (by omega)
  rw [hz1, show (Value.int .u8 0).cells = #[.int .u8 0] from rfl] at h
  simpa using h
theorem R_made (W : World) (n : Nat) (hn : n ≤ 1000000) : Kd.R (Kd.int .u8) 5 (W.alloc (.cells (madeCells #[.int .u8 0] n) 5)) W.heap.size (fun _ => True) (.slice (some ⟨W.heap.size, 0, none⟩) 0 n) [] :=
  Kd.R_of_own (enc := Value.int .u8) (h1 := fun _ => rfl) (World.ownsRow_made W _ n (Nat.le_refl _) (by unfold maxLen; omega) (by simp [size_madeCells])) (fun _ _ => trivial)
/-- 'T{}', of no elements. -/
theorem R_empty (W : World) (base : Nat) (h : base ≤ W.heap.size) : Kd.R (Kd.int .u8) 5 (W.alloc (.cells #[] 5)) base (fun _ => True) (.slice (some ⟨W.heap.size, 0, none⟩) 0 0) [] :=
  Kd.R_of_own (enc := Value.int .u8) (h1 := fun _ => rfl) (World.ownsRow_made W _ 0 h (by unfold maxLen; omega) (by simp)) (fun _ _ => trivial)
theorem R_lower' {α : Type} {d : Kd α} {e : Nat} {w : World} {base base' : Nat} {ok : Nat → Prop} {v : Value} {xs : List α} (h : d.R e w base ok v xs) (hb : base' ≤ base) : d.R e w base' ok v xs := Kd.R_lower h hb
theorem C_two (W : World) (x y : Int) : Kd.C (Kd.int .u8) (W.alloc (.cells #[.int .u8 x, .int .u8 y] 5)) (some ⟨W.heap.size, 0, none⟩) 2 [x, y] :=
  C_block (Kd.int .u8) rfl (heap_alloc_new W _) [x, y] (by simp) (fun j z hj => by
    rcases j with _ | _ | j
    · simp at hj; subst hj; exact ⟨_, rfl, rfl⟩
    · simp at hj; subst hj; exact ⟨_, rfl, rfl⟩
    · simp at hj)
theorem C_lit (W : World) (xs : List Int) (hl : xs.length ≤ 9223372036854775807) (fr : Nat × Nat) : Kd.C (Kd.int .u8) (W.alloc (.cells ((xs.map (Value.int .u8)).toArray) 5 fr)) (some ⟨W.heap.size, 0, none⟩) xs.length xs :=
  C_block (Kd.int .u8) rfl (heap_alloc_new W _) xs hl (fun j z hj => ⟨.int .u8 z, by simp [hj], rfl⟩)
/-- Rows of bytes side by side: the arguments of a call with several parts. -/
theorem C_row1 {W : World} {A1 : Option Addr} {n1 c1 : Nat} {l1 : List Int} (h1 : Kd.C (Kd.int .u8) W A1 n1 l1) (k1 : n1 ≤ c1) :
    Kd.C (Kd.slice 5 (Kd.int .u8)) (W.alloc (.cells #[.slice A1 n1 c1] 26)) (some ⟨W.heap.size, 0, none⟩) 1 [l1] := by
  have e1 := h1.1
  subst e1
  exact C_block (Kd.slice 5 (Kd.int .u8)) rfl (heap_alloc_new W _) [l1] (by simp) (fun j z hj => by
    rcases j with _ | j
    · simp at hj; subst hj; exact ⟨_, rfl, A1, c1, rfl, k1, Kd.C_alloc h1 _⟩
    · simp at hj)
theorem C_row2 {W : World} {A1 A2 : Option Addr} {n1 n2 c1 c2 : Nat} {l1 l2 : List Int} (h1 : Kd.C (Kd.int .u8) W A1 n1 l1) (k1 : n1 ≤ c1) (h2 : Kd.C (Kd.int .u8) W A2 n2 l2) (k2 : n2 ≤ c2) :
    Kd.C (Kd.slice 5 (Kd.int .u8)) (W.alloc (.cells #[.slice A1 n1 c1, .slice A2 n2 c2] 26)) (some ⟨W.heap.size, 0, none⟩) 2 [l1, l2] := by
  have e1 := h1.1
  have e2 := h2.1
  subst e1
  subst e2
  exact C_block (Kd.slice 5 (Kd.int .u8)) rfl (heap_alloc_new W _) [l1, l2] (by simp) (fun j z hj => by
    rcases j with _ | _ | j
    · simp at hj; subst hj; exact ⟨_, rfl, A1, c1, rfl, k1, Kd.C_alloc h1 _⟩
    · simp at hj; subst hj; exact ⟨_, rfl, A2, c2, rfl, k2, Kd.C_alloc h2 _⟩
    · simp at hj)

-- AUX M
-- Words of this session: what a call may change (a set of blocks), and what stays.
/-- Only the blocks of S have changed; blocks were added. -/
structure Only (w w' : World) (S : Nat → Prop) : Prop where
  os : w'.os = w.os
  tape : w'.tape = w.tape
  output : w'.output = w.output
  size : w.heap.size ≤ w'.heap.size
  block : ∀ i, i < w.heap.size → ¬ S i → w'.heap[i]? = w.heap[i]?
/-- A set of blocks, and those that were added. -/
def Grow (S : Nat → Prop) (w w' : World) : Nat → Prop := fun i => S i ∨ (w.heap.size ≤ i ∧ i < w'.heap.size)
theorem Only.refl (w : World) (S : Nat → Prop) : Only w w S := ⟨rfl, rfl, rfl, Nat.le_refl _, fun _ _ _ => rfl⟩
theorem Only.mono {w w' : World} {S T : Nat → Prop} (h : Only w w' S) (hS : ∀ i, S i → T i) : Only w w' T := ⟨h.os, h.tape, h.output, h.size, fun i hi hn => h.block i hi (fun hs => hn (hS i hs))⟩
theorem Only.then_ {w w1 w2 : World} {S T : Nat → Prop} (h : Only w w1 S) (k : Only w1 w2 T) (hT : ∀ i, T i → S i ∨ w.heap.size ≤ i) : Only w w2 S :=
  ⟨k.os.trans h.os, k.tape.trans h.tape, k.output.trans h.output, Nat.le_trans h.size k.size, fun i hi hn => (k.block i (Nat.lt_of_lt_of_le hi h.size) (fun ht => (hT i ht).elim hn (fun hge => by omega))).trans (h.block i hi hn)⟩
theorem Only.trans {w w1 w2 : World} {S : Nat → Prop} (h : Only w w1 S) (k : Only w1 w2 (Grow S w w1)) : Only w w2 S := h.then_ k (fun _ hi => hi.imp id (fun h => h.1))
theorem Only.same {w w1 w2 : World} {S : Nat → Prop} (h : Only w w1 S) (k : Only w1 w2 S) : Only w w2 S := h.then_ k (fun _ hi => .inl hi)
theorem Only.of_below {w w' : World} (h : Below w.heap.size w w') (S : Nat → Prop) : Only w w' S := ⟨h.os, h.tape, h.output, h.size, fun i hi _ => h.block i hi⟩
theorem Only.below_ {w w1 w2 : World} {S : Nat → Prop} (h : Only w w1 S) (k : Below w1.heap.size w1 w2) : Only w w2 S := h.then_ (Only.of_below k (fun _ => False)) (fun _ hf => hf.elim)
theorem Only.below {w w' : World} {S : Nat → Prop} {B : Nat} (h : Only w w' S) (hS : ∀ i, S i → B ≤ i) (hB : B ≤ w.heap.size) : Below B w w' := ⟨h.os, h.tape, h.output, h.size, fun i hi => h.block i (by omega) (fun hs => by have := hS i hs; omega)⟩
theorem Only.of_grown {w w' : World} {row : Option Nat} {S : Nat → Prop} (hg : w.grownBy w' row) (hS : ∀ k, row = some k → S k) : Only w w' S := ⟨hg.os, hg.tape, hg.output, hg.size, fun i hi hn => hg.block i hi (fun h => hn (hS i h.symm))⟩
theorem Only.setCell {w w' : World} {S : Nat → Prop} (h : Only w w' S) {p : Addr} (hp : S p.block ∨ w.heap.size ≤ p.block) (u : Value) : Only w (w'.setCell p u) S :=
  ⟨h.os, h.tape, h.output, by have := h.size; simp only [World.setCell, Array.size_modify]; exact this, fun i hi hn => (Below.heap_setCell w' p u i (fun e => by subst e; exact hp.elim hn (fun hge => by omega))).trans (h.block i hi hn)⟩
theorem Only.alloc {w w' : World} {S : Nat → Prop} (h : Only w w' S) (o : Obj) : Only w (w'.alloc o) S := h.below_ (below_alloc (Below.refl _ _) o)
theorem Only.drewN {w w' : World} {S : Nat → Prop} (h : Only w w' S) (n : Nat) : Only w (w'.drewN n) S := h.below_ (pw_below_drewN (Below.refl _ _) n)
theorem Only.drew {w w' : World} {S : Nat → Prop} (h : Only w w' S) : Only w w'.drew S := h.below_ (below_drew (Below.refl _ _))
theorem Only.same_block {w w' : World} {S : Nat → Prop} (h : Only w w' S) {i : Nat} {o : Obj} (hb : w.heap[i]? = some o) (hn : ¬ S i) : w'.heap[i]? = some o := by
  have hi : i < w.heap.size := by
    rcases Nat.lt_or_ge i w.heap.size with h | h
    · exact h
    · rw [Array.getElem?_eq_none h] at hb; cases hb
  exact (h.block i hi hn).trans hb
theorem blk_size {w : World} {i : Nat} {o : Obj} (hb : w.heap[i]? = some o) : i < w.heap.size := by
  rcases Nat.lt_or_ge i w.heap.size with h | h
  · exact h
  · rw [Array.getElem?_eq_none h] at hb; cases hb
theorem Grow.old {S : Nat → Prop} {w w' : World} {i : Nat} (h : S i) : Grow S w w' i := .inl h
theorem Grow.trans {S : Nat → Prop} {w w1 w2 : World} (h1 : w.heap.size ≤ w1.heap.size) (h2 : w1.heap.size ≤ w2.heap.size) : ∀ i, Grow (Grow S w w1) w1 w2 i → Grow S w w2 i := by
  rintro i ((h | h) | h)
  · exact .inl h
  · exact .inr ⟨h.1, by omega⟩
  · exact .inr ⟨by omega, h.2⟩
theorem setCell_here {w : World} {p : Nat} {cs : Array Value} {t : Nat} {fr : Nat × Nat} (hb : w.heap[p]? = some (.cells cs t fr)) (j : Nat) (u : Value) : (w.setCell ⟨p, j, none⟩ u).heap[p]? = some (.cells (cs.setIfInBounds j u) t fr) := by
  simp [World.setCell, Array.getElem?_modify, hb]
theorem cell_of {w : World} {p : Nat} {cs : Array Value} {t : Nat} {fr : Nat × Nat} (hb : w.heap[p]? = some (.cells cs t fr)) (j : Nat) : w.cell? ⟨p, j, none⟩ = cs[j]? := by simp [World.cell?, hb]
theorem frozen_of {w : World} {p : Nat} {cs : Array Value} {t : Nat} (hb : w.heap[p]? = some (.cells cs t (0, 0))) (j : Nat) : w.frozen? ⟨p, j, none⟩ = false := by simp [World.frozen?, hb]
/-- A row of numbers that is read, in blocks of S. -/
structure Rk (k : IntKind) (w : World) (S : Nat → Prop) (A : Option Addr) (l : List Int) : Prop where
  row : Kd.C (Kd.int k) w A l.length l
  blk : 0 < l.length → ∀ a, A = some a → S a.block
abbrev Rb := Rk .u8
theorem C_cells {k : IntKind} {w : World} {A : Option Addr} {l : List Int} (h : Kd.C (Kd.int k) w A l.length l) (hl : 0 < l.length) : ∃ ad, A = some ad ∧ ∀ j, j < l.length → w.cell? (ad.add j) = some (.int k (rd l j)) := by
  obtain ⟨ad, e, _⟩ := Kd.at_int h 0 (by omega) (by omega)
  subst e
  exact ⟨ad, rfl, fun j hj => by have := Kd.foot_int h (j : Int) (by omega) (by omega); simpa using this⟩
theorem C_mk {k : IntKind} {w : World} {A : Option Addr} {l : List Int} (hm : l.length ≤ 9223372036854775807) (h : 0 < l.length → ∃ ad, A = some ad ∧ ∀ j, j < l.length → w.cell? (ad.add j) = some (.int k (rd l j))) : Kd.C (Kd.int k) w A l.length l := by
  refine ⟨rfl, hm, fun hp => ?_⟩
  obtain ⟨ad, e, hc⟩ := h hp
  refine ⟨ad, e, fun j p hj => ?_⟩
  have hlt : j < l.length := by
    rcases Nat.lt_or_ge j l.length with h | h
    · exact h
    · rw [List.getElem?_eq_none h] at hj; cases hj
  refine ⟨[.int k p], rfl, rfl, fun i u hu => ?_⟩
  rcases i with _ | i
  · simp only [List.getElem?_cons_zero, Option.some.injEq] at hu
    subst hu
    have := hc j hlt
    have e2 : rd l (j : Int) = p := by simp [rd, hj]
    rw [e2] at this
    simpa [Kd.int, Kd.scalar] using this
  · simp at hu
/-- What is read of cells stays where the cells stay. -/
theorem C_cells_mono {k : IntKind} {w w' : World} {A : Option Addr} {l : List Int} (h : Kd.C (Kd.int k) w A l.length l) (hc : ∀ ad j, A = some ad → j < l.length → w'.cell? (ad.add j) = w.cell? (ad.add j)) : Kd.C (Kd.int k) w' A l.length l :=
  C_mk h.2.1 (fun hp => by
    obtain ⟨ad, e, hx⟩ := C_cells h hp
    exact ⟨ad, e, fun j hj => (hc ad j e hj).trans (hx j hj)⟩)
theorem cell_same {w w' : World} {b : Nat} (h : w'.heap[b]? = w.heap[b]?) (a : Addr) (ha : a.block = b) : w'.cell? a = w.cell? a := by
  simp [World.cell?, ha, h]
theorem add_blk (a : Addr) (j : Nat) : (a.add j).block = a.block := add_block a j
theorem Rk.mono {k : IntKind} {w : World} {S T : Nat → Prop} {A : Option Addr} {l : List Int} (h : Rk k w S A l) (hS : ∀ i, S i → T i) : Rk k w T A l := ⟨h.row, fun hp a ha => hS _ (h.blk hp a ha)⟩
theorem Rk.lt {k : IntKind} {w : World} {S : Nat → Prop} {A : Option Addr} {l : List Int} (h : Rk k w S A l) (hl : 0 < l.length) : ∀ a, A = some a → a.block < w.heap.size := by
  intro a ha
  obtain ⟨ad, e, hx⟩ := C_cells h.row hl
  rw [ha] at e
  cases e
  have := World.block_lt_of_cell? w _ (hx 0 hl)
  rwa [add_blk] at this
theorem Rk.only {k : IntKind} {w w' : World} {S T : Nat → Prop} {A : Option Addr} {l : List Int} (h : Rk k w S A l) (o : Only w w' T) (hd : ∀ i, S i → ¬ T i) : Rk k w' S A l :=
  ⟨C_cells_mono h.row (fun ad j e hj => cell_same (o.block _ (h.lt (by omega) ad e) (hd _ (h.blk (by omega) ad e))) _ (add_blk ad j)), h.blk⟩
theorem Rk.below {k : IntKind} {w w' : World} {S : Nat → Prop} {A : Option Addr} {l : List Int} (h : Rk k w S A l) (o : Below w.heap.size w w') : Rk k w' S A l := h.only (Only.of_below o (fun _ => False)) (fun _ _ h => h)
theorem Rk.old {k : IntKind} {w0 w : World} {A : Option Addr} {l : List Int} (h : Rk k w0 (fun i => i < w0.heap.size) A l) (o : Below w0.heap.size w0 w) : Rk k w (fun i => i < w0.heap.size) A l :=
  ⟨Kd.C_below h.row o, h.blk⟩
theorem Rk.of_C {k : IntKind} {w : World} {A : Option Addr} {l : List Int} (h : Kd.C (Kd.int k) w A l.length l) : Rk k w (fun i => i < w.heap.size) A l :=
  ⟨h, fun hp a ha => by
    obtain ⟨ad, e, hx⟩ := C_cells h hp
    rw [ha] at e
    cases e
    have := World.block_lt_of_cell? w _ (hx 0 hp)
    rwa [add_blk] at this⟩
/-- An own row: its block is the row's. -/
theorem Rk.of_R {w : World} {B n c : Nat} {ok : Nat → Prop} {A : Option Addr} {l : List Int} (h : Kd.R (Kd.int .u8) 5 w B ok (.slice A n c) l) : Rb w ok A l :=
  ⟨(Kd.R_reads' h).2.2, fun _ a ha => h.1 a.block (by subst ha; rfl)⟩
theorem R_only {α : Type} {d : Kd α} {e : Nat} {w w' : World} {base : Nat} {ok T : Nat → Prop} {v : Value} {xs : List α} (h : d.R e w base ok v xs) (k : Only w w' T) (hd : ∀ i, ok i → ¬ T i) : d.R e w' base ok v xs := Kd.R_step h (fun i ho hi => k.block i hi (hd i ho))
theorem R_made_in {α : Type} {d : Kd α} {e : Nat} {w w' : World} {ok : Nat → Prop} {v : Value} {xs : List α} (h : d.R e w' w.heap.size ok v xs) : d.R e w' w.heap.size (fun i => w.heap.size ≤ i ∧ i < w'.heap.size) v xs := Kd.R_mono (Kd.R_bound h) (fun _ hk => ⟨hk.2.1, hk.2.2.1⟩)
theorem add_zero_ (a : Addr) : a.add 0 = a := by
  obtain ⟨b, o, s⟩ := a
  unfold Addr.add
  split <;> simp_all

/-! ### slices_Clone_byte_byte: function 35 -/
/-- A copy of its own. -/
theorem slices_Clone_byte_byte.own (A0 : Option Addr) (c0 : Nat) (l0 : List Int) (w : World) (hr0 : Kd.C (Kd.int .u8) w A0 l0.length l0) (hp : l0.length < 140737488355328) :
    Calls Try.prog 35 #[.slice A0 l0.length c0] w fun e w' => ∃ v0_ : Value, e = .returned (v0_) ∧ Kd.R (Kd.int .u8) 5 w' w.heap.size (fun _ => True) v0_ l0 ∧ Below w.heap.size w w' := by
  have HR := Aside0.mk hr0
  rcases A0 with _ | ad
  · have hl : l0 = [] := by
      rcases l0 with _ | ⟨x, l⟩
      · rfl
      · obtain ⟨_, _, hc⟩ := hr0
        obtain ⟨ad, e, _⟩ := hc (by simp)
        cases e
    subst hl
    clear hr0 HR
    have heq : ∀ W : World, (binOp .eql 26 (.slice none 0 c0) (.slice none 0 0)).run Try.prog W = .ok (.bool true) W := fun W => Lib.run_eql_slice_nil (P := Try.prog) W 26 5 none 0 c0 0 0 Try.underlying26
    simp only [List.length_nil] at hp ⊢
    go_enter Try.func35, Try.ntmps35
    go_wp2
    go_ret
    exact ⟨_, rfl, Kd.R_nil _ _ _ _ _, Below.refl _ _⟩
  · clear hr0
    have heq : ∀ W : World, (binOp .eql 26 (.slice (some ad) l0.length c0) (.slice none 0 0)).run Try.prog W = .ok (.bool false) W := fun W => Lib.run_eql_slice_nil (P := Try.prog) W 26 5 (some ad) l0.length c0 0 0 Try.underlying26
    go_enter Try.func35, Try.ntmps35
    go_wp2_with (first | ((with_reducible refine gate_builtin (b := .append) (xs := #[.tmp 5, .tmp 6]) rfl ?_); at_builtin; refine Kd.R_append_rows (Kd.int .u8) (w0 := w) w.heap.size rfl (.tmp 5) (.tmp 6) 26 5 (.int .u8 0) 1 rfl Try.underlying26 info5 rfl (by decide) (by omega) _ [] l0 _ _ _ (fun _ => True) (fun _ => False) rfl rfl ?aO ?aR (fun _ _ h => h) (fun _ h => h.elim) (fun _ _ => trivial) ?aB ?aS ?aL ?_; (case aO => exact R_empty w w.heap.size (Nat.le_refl _)); (case aR => exact Kd.C_alloc HR.out _); (case aB => exact below_alloc (Below.refl _ w) _); (case aS => simp); (case aL => (simp; omega)); intro v3 w3 ho hb hg hat; clear hg hat; have HO3 := Aside0.mk ho; have HB3 := Aside0.mk hb; clear ho hb))
    go_ret
    exact ⟨_, rfl, by simpa using HO3.out, HB3.out⟩

-- AUX wr
/-- What a writer (h; z: it is nil) holds: its bytes, in blocks of S. -/
def Wr (w : World) (S : Nat → Prop) (z : Bool) (h : Value) (l : List Int) : Prop :=
  (z = true ∧ h = .pointer none ∧ l = []) ∨ (z = false ∧ ∃ p v, h = .pointer (some ⟨p, 0, none⟩) ∧ S p ∧ w.heap[p]? = some (.cells #[v] 28 (0, 0)) ∧ Kd.R (Kd.int .u8) 5 w 0 S v l)
/-- What is there behind bytes were put to it. -/
def app (z : Bool) (l bs : List Int) : List Int := if z = true then l else l ++ bs
theorem app_app (z : Bool) (l a b : List Int) : app z (app z l a) b = app z l (a ++ b) := by cases z <;> simp [app]
theorem app_nil (z : Bool) (l : List Int) : app z l [] = l := by cases z <;> simp [app]
theorem app_len (z : Bool) (l a : List Int) : (app z l a).length ≤ l.length + a.length := by cases z <;> simp [app]
theorem Wr.mono {w : World} {S T : Nat → Prop} {z : Bool} {h : Value} {l : List Int} (x : Wr w S z h l) (hS : ∀ i, S i → T i) : Wr w T z h l := by
  rcases x with x | ⟨hz, p, v, rfl, hp, hb, hr⟩
  · exact .inl x
  · exact .inr ⟨hz, p, v, rfl, hS _ hp, hb, Kd.R_mono hr hS⟩
theorem Wr.only {w w' : World} {S T : Nat → Prop} {z : Bool} {h : Value} {l : List Int} (x : Wr w S z h l) (k : Only w w' T) (hd : ∀ i, S i → ¬ T i) : Wr w' S z h l := by
  rcases x with x | ⟨hz, p, v, rfl, hp, hb, hr⟩
  · exact .inl x
  · exact .inr ⟨hz, p, v, rfl, hp, k.same_block hb (hd _ hp), R_only hr k hd⟩
theorem Wr.below {w w' : World} {S : Nat → Prop} {z : Bool} {h : Value} {l : List Int} (x : Wr w S z h l) (k : Below w.heap.size w w') : Wr w' S z h l := x.only (Only.of_below k (fun _ => False)) (fun _ _ h => h)
/-- What a writing call leaves. -/
structure WrTo (w w' : World) (S : Nat → Prop) (z : Bool) (h : Value) (l : List Int) : Prop where
  wr : Wr w' (Grow S w w') z h l
  only : Only w w' S
theorem WrTo.then_ {w w1 w2 : World} {S : Nat → Prop} {z : Bool} {h : Value} {l l2 : List Int} (x : WrTo w w1 S z h l) (y : WrTo w1 w2 (Grow S w w1) z h l2) : WrTo w w2 S z h l2 :=
  ⟨y.wr.mono (Grow.trans x.only.size y.only.size), x.only.trans y.only⟩
theorem WrTo.below {w w1 w2 : World} {S : Nat → Prop} {z : Bool} {h : Value} {l : List Int} (x : WrTo w w1 S z h l) (k : Below w1.heap.size w1 w2) : WrTo w w2 S z h l :=
  ⟨(x.wr.below k).mono (fun i hi => hi.imp id (fun h => ⟨h.1, by have := k.size; omega⟩)), x.only.below_ k⟩
theorem WrTo.refl {w : World} {S : Nat → Prop} {z : Bool} {h : Value} {l : List Int} (x : Wr w S z h l) : WrTo w w S z h l := ⟨x.mono (fun _ h => .inl h), Only.refl _ _⟩
theorem WrTo.late {w w1 w2 : World} {S : Nat → Prop} {z : Bool} {h : Value} {l : List Int} (k : Below w.heap.size w w1) (x : WrTo w1 w2 S z h l) : WrTo w w2 S z h l :=
  ⟨x.wr.mono (fun i hi => hi.imp id (fun h => ⟨by have := k.size; omega, h.2⟩)), (Only.of_below k S).same x.only⟩
theorem wr_put {w w1 : World} {S : Nat → Prop} {p : Nat} {v v1 : Value} {l l' : List Int} (hS : S p) (hblk : w.heap[p]? = some (.cells #[v] 28 (0, 0))) (h0 : Kd.R (Kd.int .u8) 5 w 0 S v l)
    (hO : Kd.R (Kd.int .u8) 5 w1 0 (fun k => S k ∨ w.heap.size ≤ k) v1 l') (hg : w.grownBy w1 v.ownBlock) :
    WrTo w (w1.setCell ⟨p, 0, none⟩ v1) S false (.pointer (some ⟨p, 0, none⟩)) l' := by
  have hne : some p ≠ v.ownBlock := fun e => by
    obtain ⟨inner, ho⟩ := Kd.R_own h0
    obtain ⟨cells, hc⟩ := own_typed ho p e.symm
    rw [hblk] at hc
    injection hc with hc
    injection hc with _ h2 _
    exact absurd h2 (by decide)
  have hb1 : w1.heap[p]? = some (.cells #[v] 28 (0, 0)) := (hg.block p (blk_size hblk) hne).trans hblk
  have hsz : (w1.setCell ⟨p, 0, none⟩ v1).heap.size = w1.heap.size := by simp [World.setCell]
  refine ⟨.inr ⟨rfl, p, v1, rfl, .inl hS, setCell_here hb1 0 v1, ?_⟩, (Only.of_grown hg (fun k hk => h0.1 k hk)).setCell (p := ⟨p, 0, none⟩) (.inl hS) v1⟩
  refine Kd.R_mono (Kd.R_bound (Kd.R_set hO hb1 (by decide) 0 v1)) (fun k hk => ?_)
  rw [hsz] at hk
  rcases hk.1 with h | h
  · exact .inl h
  · exact .inr ⟨h, by rw [hsz]; exact hk.2.2.1⟩

/-! ### wire_Writer_Out: function 15 -/
theorem wire_Writer_Out.calls (S : Nat → Prop) (z : Bool) (h : Value) (l : List Int) (w : World) (hw : Wr w S z h l) (hl : l.length < 140737488355328) :
    Calls Try.prog 15 #[h] w fun e w' => ∃ v, e = .returned v ∧ Kd.R (Kd.int .u8) 5 w' w.heap.size (fun _ => True) v l ∧ Below w.heap.size w w' := by
  rcases hw with ⟨rfl, rfl, rfl⟩ | ⟨rfl, p, v, rfl, hp, hb, hR⟩
  · go_enter Try.func15, Try.ntmps15
    go_wp2
    go_ret
    exact ⟨_, rfl, Kd.R_nil _ _ _ _ _, Below.refl _ _⟩
  · have hcell : w.cell? ⟨p, 0, none⟩ = some v := by rw [cell_of hb]; rfl
    obtain ⟨A, c, rfl, -⟩ := Kd.R_reads hR
    have HC := Aside0.mk (Kd.R_reads' hR).2.2
    clear hb hR
    go_enter Try.func15, Try.ntmps15
    go_wp2_with fail
    refine (slices_Clone_byte_byte.own A c l _ HC.out hl).mono ?_
    rintro e w1 ⟨v, rfl, hv, hbl⟩
    obtain ⟨A1, c1, rfl, -⟩ := Kd.R_reads hv
    have HV := Aside0.mk hv
    have HB := Aside0.mk hbl
    clear hv hbl
    go_wp2
    go_ret
    exact ⟨_, rfl, HV.out, HB.out⟩

-- AUX rdr
/-- A struct that reads (type t, at p): what it has left. -/
structure Cur (t : Nat) (w : World) (S : Nat → Prop) (p : Nat) (A : Option Addr) (c : Nat) (l : List Int) (bad : Bool) : Prop where
  str : w.heap[p]? = some (.cells #[.slice A l.length c, .bool bad] t (0, 0))
  len : l.length ≤ c
  row : Rb w S A l
  ne : ¬ S p
  z : bad = true → l = []
  byt : ∀ x ∈ l, 0 ≤ x ∧ x < 256
/-- The row may be written. -/
def Nf (w : World) (A : Option Addr) (l : List Int) : Prop := 0 < l.length → ∀ a, A = some a → a.spot = none ∧ ∃ cs, w.heap[a.block]? = some (.cells cs 5 (0, 0))
theorem Nf.only {w w' : World} {S T : Nat → Prop} {A : Option Addr} {l : List Int} (h : Nf w A l) (r : Rb w S A l) (o : Only w w' T) (hd : ∀ i, S i → ¬ T i) : Nf w' A l := fun hp a ha => by
  obtain ⟨hs, cs, hc⟩ := h hp a ha
  exact ⟨hs, cs, o.same_block hc (hd _ (r.blk hp a ha))⟩
theorem Cur.only {t : Nat} {w w' : World} {S T : Nat → Prop} {p : Nat} {A : Option Addr} {c : Nat} {l : List Int} {bad : Bool} (x : Cur t w S p A c l bad) (o : Only w w' T) (hd : ∀ i, S i → ¬ T i) (hp : ¬ T p) : Cur t w' S p A c l bad :=
  ⟨o.same_block x.str hp, x.len, x.row.only o hd, x.ne, x.z, x.byt⟩
/-- A pointer's block. -/
def Pt (h : Value) : Nat → Prop := fun i => h = .pointer (some ⟨i, 0, none⟩)
/-- What a reader (h; nil: a bad one) has left, in blocks of S. -/
def Rd (w : World) (S : Nat → Prop) (h : Value) (l : List Int) (bad : Bool) : Prop :=
  (h = .pointer none ∧ l = [] ∧ bad = true) ∨ ∃ p A c, h = .pointer (some ⟨p, 0, none⟩) ∧ Cur 63 w S p A c l bad ∧ Nf w A l
theorem Rd.only {w w' : World} {S T : Nat → Prop} {h : Value} {l : List Int} {bad : Bool} (x : Rd w S h l bad) (o : Only w w' T) (hd : ∀ i, S i → ¬ T i) (hp : ∀ i, Pt h i → ¬ T i) : Rd w' S h l bad := by
  rcases x with x | ⟨p, A, c, rfl, x, y⟩
  · exact .inl x
  · exact .inr ⟨p, A, c, rfl, x.only o hd (hp p rfl), y.only x.row o hd⟩
theorem Rd.below {w w' : World} {S : Nat → Prop} {h : Value} {l : List Int} {bad : Bool} (x : Rd w S h l bad) (k : Below w.heap.size w w') : Rd w' S h l bad := x.only (Only.of_below k (fun _ => False)) (fun _ _ h => h) (fun _ _ h => h)
theorem Rd.byt {w : World} {S : Nat → Prop} {h : Value} {l : List Int} {bad : Bool} (x : Rd w S h l bad) : ∀ x ∈ l, 0 ≤ x ∧ x < 256 := by
  rcases x with ⟨_, rfl, _⟩ | ⟨p, A, c, rfl, x, y⟩
  · simp
  · exact x.byt
theorem Rd.z {w : World} {S : Nat → Prop} {h : Value} {l : List Int} {bad : Bool} (x : Rd w S h l bad) : bad = true → l = [] := by
  rcases x with ⟨_, rfl, _⟩ | ⟨p, A, c, rfl, x, y⟩
  · simp
  · exact x.z
theorem Rd.max {w : World} {S : Nat → Prop} {h : Value} {l : List Int} {bad : Bool} (x : Rd w S h l bad) : l.length ≤ 9223372036854775807 := by
  rcases x with ⟨_, rfl, _⟩ | ⟨p, A, c, rfl, x, y⟩
  · simp
  · exact x.row.row.2.1
/-- What a reading call leaves. -/
structure RdTo (w w' : World) (S : Nat → Prop) (h : Value) (l : List Int) (bad : Bool) : Prop where
  rd : Rd w' S h l bad
  only : Only w w' (Pt h)
theorem RdTo.then_ {w w1 w2 : World} {S : Nat → Prop} {h : Value} {l l2 : List Int} {bad bad2 : Bool} (x : RdTo w w1 S h l bad) (y : RdTo w1 w2 S h l2 bad2) : RdTo w w2 S h l2 bad2 := ⟨y.rd, x.only.same y.only⟩
theorem RdTo.refl {w : World} {S : Nat → Prop} {h : Value} {l : List Int} {bad : Bool} (x : Rd w S h l bad) : RdTo w w S h l bad := ⟨x, Only.refl _ _⟩
/-- The cells of a row may have changed, nothing else. -/
structure Seg (w w' : World) (A : Option Addr) (n : Nat) : Prop where
  os : w'.os = w.os
  tape : w'.tape = w.tape
  output : w'.output = w.output
  size : w'.heap.size = w.heap.size
  block : ∀ i, (0 < n → ∀ a, A = some a → i ≠ a.block) → w'.heap[i]? = w.heap[i]?
  cell : ∀ a, A = some a → ∀ p : Addr, p.block = a.block → (∀ j, j < n → p ≠ a.add j) → w'.cell? p = w.cell? p
  kind : ∀ a, A = some a → ∀ cs t, w.heap[a.block]? = some (.cells cs t (0, 0)) → ∃ cs', w'.heap[a.block]? = some (.cells cs' t (0, 0))
theorem Seg.refl (w : World) (A : Option Addr) (n : Nat) : Seg w w A n := ⟨rfl, rfl, rfl, rfl, fun _ _ => rfl, fun _ _ _ _ _ => rfl, fun _ _ cs t h => ⟨cs, h⟩⟩
theorem Seg.only {w w' : World} {S : Nat → Prop} {A : Option Addr} {l : List Int} (x : Seg w w' A l.length) (r : Rb w S A l) : Only w w' S :=
  ⟨x.os, x.tape, x.output, by rw [x.size]; exact Nat.le_refl _, fun i _ hn => x.block i (fun hp a ha e => by subst e; exact hn (r.blk hp a ha))⟩
/-- A reader whose row lies apart from n cells at A. -/
def RdX (w : World) (S : Nat → Prop) (h : Value) (l : List Int) (bad : Bool) (A : Option Addr) (n : Nat) : Prop :=
  (h = .pointer none ∧ l = [] ∧ bad = true) ∨ ∃ p A2 c, h = .pointer (some ⟨p, 0, none⟩) ∧ Cur 63 w S p A2 c l bad ∧ Nf w A2 l ∧ (0 < n → ∀ a, A = some a → p ≠ a.block) ∧ (∀ ad a, A2 = some ad → A = some a → ∀ i, i < n → ∀ j, j < l.length → ad.add j ≠ a.add i)
theorem RdX.rd {w : World} {S : Nat → Prop} {h : Value} {l : List Int} {bad : Bool} {A : Option Addr} {n : Nat} (x : RdX w S h l bad A n) : Rd w S h l bad := by
  rcases x with x | ⟨p, A2, c, rfl, x, y, _⟩
  · exact .inl x
  · exact .inr ⟨p, A2, c, rfl, x, y⟩
theorem RdX.only {w w' : World} {S T : Nat → Prop} {h : Value} {l : List Int} {bad : Bool} {A : Option Addr} {n : Nat} (x : RdX w S h l bad A n) (o : Only w w' T) (hd : ∀ i, S i → ¬ T i) (hp : ∀ i, Pt h i → ¬ T i) : RdX w' S h l bad A n := by
  rcases x with x | ⟨p, A2, c, rfl, x, y, z1, z2⟩
  · exact .inl x
  · exact .inr ⟨p, A2, c, rfl, x.only o hd (hp p rfl), y.only x.row o hd, z1, z2⟩
theorem RdX.seg {w w' : World} {S : Nat → Prop} {h : Value} {l : List Int} {bad : Bool} {A : Option Addr} {n : Nat} (x : RdX w S h l bad A n) (sg : Seg w w' A n) : Rd w' S h l bad := by
  rcases x with x | ⟨p, A2, c, rfl, x, y, z1, z2⟩
  · exact .inl x
  · refine .inr ⟨p, A2, c, rfl, ⟨(sg.block p z1).trans x.str, x.len, ⟨C_cells_mono x.row.row (fun ad j he hj => ?_), x.row.blk⟩, x.ne, x.z, x.byt⟩, fun hp a ha => ?_⟩
    · rcases A with _ | a0
      · exact cell_same (sg.block ad.block (fun _ a h => by cases h)) _ (add_blk ad j)
      · by_cases hb : ad.block = a0.block
        · exact sg.cell a0 rfl _ (by rw [add_blk]; exact hb) (fun i hi e => z2 ad a0 he rfl i hi j hj e)
        · exact cell_same (sg.block ad.block (fun _ a h => by cases h; exact hb)) _ (add_blk ad j)
    · obtain ⟨q1, cs, q2⟩ := y hp a ha
      refine ⟨q1, ?_⟩
      rcases A with _ | a0
      · exact ⟨cs, (sg.block a.block (fun _ a h => by cases h)).trans q2⟩
      · by_cases hb : a.block = a0.block
        · rw [hb] at q2 ⊢
          exact sg.kind a0 rfl cs _ q2
        · exact ⟨cs, (sg.block a.block (fun _ a h => by cases h; exact hb)).trans q2⟩
/-- The parts of a row: what is taken, and what is left. -/
def tkS (n : Int) (l : List Int) (bad : Bool) : Option (List Int × List Int) := if bad = false ∧ 0 ≤ n ∧ n ≤ l.length then some (l.take n.toNat, l.drop n.toNat) else none
theorem tkS_some {n : Int} {l b r : List Int} {bad : Bool} (h : tkS n l bad = some (b, r)) : bad = false ∧ 0 ≤ n ∧ n ≤ l.length ∧ b = l.take n.toNat ∧ r = l.drop n.toNat := by
  unfold tkS at h
  split at h
  · rename_i hc
    simp only [Option.some.injEq, Prod.mk.injEq] at h
    exact ⟨hc.1, hc.2.1, hc.2.2, h.1.symm, h.2.symm⟩
  · cases h
theorem tkS_none {n : Int} {l : List Int} {bad : Bool} (h : tkS n l bad = none) : bad = true ∨ n < 0 ∨ n > l.length := by
  unfold tkS at h
  split at h
  · cases h
  · rename_i hc
    cases bad
    · simp only [true_and] at hc
      omega
    · exact .inl rfl
def byteS (l : List Int) (bad : Bool) : Int × List Int × Bool := match tkS 1 l bad with
  | some (b, r) => (rd b 0, r, false)
  | none => (0, [], true)
def sumN (b : List Int) : Nat → Int
  | 0 => 0
  | k + 1 => sumN b k + rd b k * 2 ^ (8 * k)
def unL (b : List Int) : Int := wrap64 (sumN b 8)
def numS (l : List Int) (bad : Bool) : Int × List Int × Bool := match tkS 8 l bad with
  | some (b, r) => (unL b, r, false)
  | none => (0, [], true)
def flagS (l : List Int) (bad : Bool) : Bool × List Int × Bool := if (byteS l bad).1 > 1 then (false, [], true) else (decide ((byteS l bad).1 = 1), (byteS l bad).2.1, (byteS l bad).2.2)
def bytesS (l : List Int) (bad : Bool) : List Int × List Int × Bool := match tkS (numS l bad).1 (numS l bad).2.1 (numS l bad).2.2 with
  | some (b, r) => (b, r, false)
  | none => ([], [], true)
def numsR : Nat → List Int → Bool → List Int × List Int × Bool
  | 0, l, bad => ([], l, bad)
  | k + 1, l, bad => ((numsR k l bad).1 ++ [(numS (numsR k l bad).2.1 (numsR k l bad).2.2).1], (numS (numsR k l bad).2.1 (numsR k l bad).2.2).2)
def numsS (l : List Int) (bad : Bool) : List Int × List Int × Bool :=
  if (numS l bad).1 < 0 ∨ (numS l bad).1 > (numS l bad).2.1.length / 8 then ([], [], true) else numsR (numS l bad).1.toNat (numS l bad).2.1 (numS l bad).2.2

/-! ### wire_NewReader: function 17 -/
/-- A reader that was made. -/
structure RdNew (w w' : World) (h : Value) (l : List Int) : Prop where
  rd : Rd w' (fun i => w.heap.size ≤ i ∧ i < w'.heap.size ∧ ¬ Pt h i) h l false
  pt : ∀ i, Pt h i → w.heap.size ≤ i ∧ i < w'.heap.size
  below : Below w.heap.size w w'
theorem wire_NewReader.calls (A : Option Addr) (c : Nat) (l : List Int) (w : World) (hr : Kd.C (Kd.int .u8) w A l.length l) (hb : ∀ x ∈ l, 0 ≤ x ∧ x < 256) (hl : l.length < 140737488355328) :
    Calls Try.prog 17 #[.slice A l.length c] w fun e w' => ∃ p, e = .returned (.pointer (some ⟨p, 0, none⟩)) ∧ RdNew w w' (.pointer (some ⟨p, 0, none⟩)) l := by
  have HR := Aside0.mk hr
  have HBY := Aside0.mk hb
  clear hr hb
  go_enter Try.func17, Try.ntmps17
  go_wp2_with fail
  refine (slices_Clone_byte_byte.own A c l _ HR.out hl).mono ?_
  rintro e w1 ⟨v, rfl, hv, hbl⟩
  obtain ⟨A1, c1, rfl, -⟩ := Kd.R_reads hv
  have HV := Aside0.mk hv
  have HB := Aside0.mk hbl
  clear hv hbl
  go_wp2
  go_ret
  have hv := HV.out
  have hsz := HB.out.size
  obtain ⟨-, hlc, hC⟩ := Kd.R_reads' hv
  have hpt : ∀ i, Pt (.pointer (some ⟨w1.heap.size, 0, none⟩)) i → i = w1.heap.size := fun i hi => by
    have : w1.heap.size = i := by simpa [Pt] using hi
    exact this.symm
  refine ⟨w1.heap.size, rfl, .inr ⟨w1.heap.size, A1, c1, rfl, ⟨heap_alloc_new w1 _, hlc, ⟨Kd.C_alloc hC _, fun hp a ha => ?_⟩, fun hn => hn.2.2 rfl, (fun h => by cases h), HBY.out⟩, fun hp a ha => ?_⟩, fun i hi => ?_, below_alloc HB.out _⟩
  · have h1 := Kd.R_base hv a.block (by subst ha; rfl)
    have h2 := Kd.R_lt hv a.block (by subst ha; rfl)
    refine ⟨h1, by simp; omega, fun hq => ?_⟩
    have := hpt _ hq
    omega
  · obtain ⟨g, cap, e, _, hgl, cells, hg⟩ := Kd.R_form hv hp
    injection e with e1 _ _
    rw [e1] at ha
    cases ha
    exact ⟨rfl, cells, by simpa using (Below.heap_alloc w1 _ g hgl).trans hg⟩
  · have := hpt i hi
    subst this
    exact ⟨hsz, by simp⟩

-- AUX rm
/-- The document's reader at q: what it has left. -/
def Rm (w : World) (S : Nat → Prop) (q : Nat) (l : List Int) (bad : Bool) : Prop := ∃ A c, Cur 42 w S q A c l bad
theorem Rm.only {w w' : World} {S T : Nat → Prop} {q : Nat} {l : List Int} {bad : Bool} (x : Rm w S q l bad) (o : Only w w' T) (hd : ∀ i, S i → ¬ T i) (hp : ¬ T q) : Rm w' S q l bad := by
  obtain ⟨A, c, x⟩ := x
  exact ⟨A, c, x.only o hd hp⟩
theorem Rm.below {w w' : World} {S : Nat → Prop} {q : Nat} {l : List Int} {bad : Bool} (x : Rm w S q l bad) (k : Below w.heap.size w w') : Rm w' S q l bad := x.only (Only.of_below k (fun _ => False)) (fun _ _ h => h) (fun h => h)
theorem Rm.byt {w : World} {S : Nat → Prop} {q : Nat} {l : List Int} {bad : Bool} (x : Rm w S q l bad) : ∀ x ∈ l, 0 ≤ x ∧ x < 256 := by
  obtain ⟨A, c, x⟩ := x
  exact x.byt
theorem Rm.lt {w : World} {S : Nat → Prop} {q : Nat} {l : List Int} {bad : Bool} (x : Rm w S q l bad) : q < w.heap.size := by
  obtain ⟨A, c, x⟩ := x
  exact blk_size x.str
structure RmTo (w w' : World) (S : Nat → Prop) (q : Nat) (l : List Int) (bad : Bool) : Prop where
  rm : Rm w' S q l bad
  only : Only w w' (fun i => i = q)
theorem RmTo.then_ {w w1 w2 : World} {S : Nat → Prop} {q : Nat} {l l2 : List Int} {bad bad2 : Bool} (x : RmTo w w1 S q l bad) (y : RmTo w1 w2 S q l2 bad2) : RmTo w w2 S q l2 bad2 := ⟨y.rm, x.only.same y.only⟩
theorem RmTo.refl {w : World} {S : Nat → Prop} {q : Nat} {l : List Int} {bad : Bool} (x : Rm w S q l bad) : RmTo w w S q l bad := ⟨x, Only.refl _ _⟩
/-- The row goes on by m bytes. -/
theorem rm_cut {w w1 : World} {S : Nat → Prop} {q : Nat} {A : Option Addr} {c m : Nat} {l : List Int} {bad : Bool} (x : Cur 42 w S q A c l bad) (hm : m ≤ l.length) {A2 : Option Addr} (hA2 : A2 = if c = m then A else A.map (·.add m)) (k : Below w.heap.size w w1) :
    RmTo w (w1.setCell ⟨q, 0, none⟩ (.slice A2 (l.length - m) (c - m))) S q (l.drop m) bad := by
  have x1 := x.only (Only.of_below k (fun _ => False)) (fun _ _ h => h) (fun h => h)
  have o : Only w (w1.setCell ⟨q, 0, none⟩ (.slice A2 (l.length - m) (c - m))) (fun i => i = q) := (Only.of_below k (fun i => i = q)).setCell (p := ⟨q, 0, none⟩) (.inl rfl) _
  have o1 : Only w1 (w1.setCell ⟨q, 0, none⟩ (.slice A2 (l.length - m) (c - m))) (fun i => i = q) := (Only.refl w1 (fun i => i = q)).setCell (p := ⟨q, 0, none⟩) (.inl rfl) _
  have hS : ∀ i, S i → ¬ i = q := fun i hi he => by subst he; exact x.ne hi
  have e1 := setCell_here x1.str 0 (.slice A2 (l.length - m) (c - m))
  generalize w1.setCell ⟨q, 0, none⟩ (.slice A2 (l.length - m) (c - m)) = w2 at *
  have r1 := x1.row.only o1 hS
  have hld : (l.drop m).length = l.length - m := List.length_drop
  have hlen := x.len
  have rD : Rb w2 S A2 (l.drop m) := by
    subst hA2
    have := Kd.C_drop (m := m) r1.row hm x.len
    refine ⟨by simpa [Kd.int, Kd.scalar] using this, fun hp a ha => ?_⟩
    rw [if_neg (by omega)] at ha
    rcases A with _ | a0
    · cases ha
    · simp only [Option.map_some, Option.some.injEq] at ha
      subst ha
      rw [add_blk]
      exact r1.blk (by omega) a0 rfl
  refine ⟨⟨A2, c - m, by rw [hld]; exact e1, by omega, rD, x.ne, fun hb => ?_, fun z hz => x.byt z (List.mem_of_mem_drop hz)⟩, o⟩
  have := x.z hb
  subst this
  simp

-- AUX segw
theorem add_at (a : Addr) (hs : a.spot = none) (k : Nat) : a.add k = ⟨a.block, a.off + k, none⟩ := by
  obtain ⟨b, o, s⟩ := a
  simp only at hs
  subst hs
  unfold Addr.add
  split <;> simp_all
theorem setCell_cell_ne {w : World} {b o : Nat} {u : Value} {cs : Array Value} {t : Nat} (hb : w.heap[b]? = some (.cells cs t (0, 0))) (p : Addr) (hp : p ≠ ⟨b, o, none⟩) : (w.setCell ⟨b, o, none⟩ u).cell? p = w.cell? p := by
  by_cases e : p.block = b
  · have h1 := setCell_here hb o u
    obtain ⟨pb, po, ps⟩ := p
    simp only at e
    subst e
    simp only [World.cell?, h1, hb]
    rcases ps with _ | s
    · have : po ≠ o := fun h => hp (by rw [h])
      simp [Array.getElem?_setIfInBounds, Ne.symm this]
    · rfl
  · exact cell_same (Below.heap_setCell w ⟨b, o, none⟩ u p.block e) p rfl
theorem Seg.set {w w' : World} {ad : Addr} {n k : Nat} (x : Seg w w' (some ad) n) (hs : ad.spot = none) (hk : k < n) {cs : Array Value} {t : Nat} (hb : w.heap[ad.block]? = some (.cells cs t (0, 0))) (u : Value) : Seg w (w'.setCell (ad.add k) u) (some ad) n := by
  obtain ⟨cs', hb'⟩ := x.kind ad rfl cs t hb
  rw [add_at ad hs]
  refine ⟨x.os, x.tape, x.output, by simp only [World.setCell, Array.size_modify]; exact x.size, fun i hi => ?_, fun a ha p hp hne => ?_, fun a ha cs0 t0 h0 => ?_⟩
  · exact (Below.heap_setCell w' ⟨ad.block, ad.off + k, none⟩ u i (hi (by omega) ad rfl)).trans (x.block i hi)
  · cases ha
    rw [setCell_cell_ne hb' p (by rw [← add_at ad hs]; exact hne k hk)]
    exact x.cell ad rfl p hp hne
  · cases ha
    rw [hb] at h0
    injection h0 with h0
    injection h0 with _ h2 _
    subst h2
    exact ⟨_, setCell_here hb' _ u⟩

-- AUX wrnew
theorem wr_new (W : World) : Wr (W.alloc (.cells #[.slice none 0 0] 28)) (fun i => i = W.heap.size) false (.pointer (some ⟨W.heap.size, 0, none⟩)) [] :=
  .inr ⟨rfl, W.heap.size, .slice none 0 0, rfl, rfl, heap_alloc_new W _, Kd.R_nil _ _ _ _ _⟩
theorem R_lit (W : World) (base : Nat) (xs : List Int) (h : base ≤ W.heap.size) (hl : xs.length ≤ 1000) : Kd.R (Kd.int .u8) 5 (W.alloc (.cells ((xs.map (Value.int .u8)).toArray) 5)) base (fun _ => True) (.slice (some ⟨W.heap.size, 0, none⟩) xs.length xs.length) xs :=
  Kd.R_of_own (enc := Value.int .u8) (h1 := fun _ => rfl) ⟨by simp [encs], .inr ⟨W.heap.size, xs.length, _, rfl, h, heap_alloc_new W _, Nat.le_refl _, by unfold maxLen; omega, by simp, by simp [encs, List.take_of_length_le]⟩⟩ (fun _ _ => trivial)

/-! ### wire_Reader_End: function 20 -/
def endE (l : List Int) (bad : Bool) : Option Int := if bad = true ∨ 0 < l.length then some 2 else none
theorem wire_Reader_End.calls (S : Nat → Prop) (h : Value) (l : List Int) (bad : Bool) (w : World) (hr : Rd w S h l bad) :
    Calls Try.prog 20 #[h] w fun e w' => e = .returned (errW (endE l bad)) ∧ w = w' := by
  rcases hr with ⟨rfl, rfl, rfl⟩ | ⟨p, A, c, rfl, x, y⟩
  · have he : errW (endE [] true) = errW (some 2) := rfl
    rw [he, errW_some]
    go_enter Try.func20, Try.ntmps20
    go_wp2
    go_ret
    exact ⟨rfl, rfl⟩
  · have h0 : w.cell? ⟨p, 0, none⟩ = some (.slice A l.length c) := by rw [cell_of x.str]; rfl
    have h1 : w.cell? ⟨p, 1, none⟩ = some (.bool bad) := by rw [cell_of x.str]; rfl
    have hm := x.row.row.2.1
    clear x y
    rcases bad with _ | _
    · by_cases hl : 0 < l.length
      · have he : errW (endE l false) = errW (some 2) := by unfold endE; rw [if_pos (.inr hl)]
        have hl2 : (0 : Int) < l.length := by omega
        rw [he, errW_some]
        clear he
        go_enter Try.func20, Try.ntmps20
        go_wp2
        go_ret
        exact ⟨rfl, rfl⟩
      · have he : errW (endE l false) = errW none := by unfold endE; rw [if_neg (by rintro (q | q); cases q; exact hl q)]
        have hl2 : ¬ (0 : Int) < l.length := by omega
        rw [he, errW_none]
        clear he
        go_enter Try.func20, Try.ntmps20
        go_wp2
        go_ret
        exact ⟨rfl, rfl⟩
    · have he : errW (endE l true) = errW (some 2) := by unfold endE; rw [if_pos (.inl rfl)]
      rw [he, errW_some]
      clear he
      go_enter Try.func20, Try.ntmps20
      go_wp2
      go_ret
      exact ⟨rfl, rfl⟩

/-! ### wire_Reader_fail: function 46 -/
theorem wire_Reader_fail.calls (S : Nat → Prop) (p : Nat) (A : Option Addr) (c : Nat) (l : List Int) (bad : Bool) (w : World) (hr : Cur 63 w S p A c l bad) :
    Calls Try.prog 46 #[.pointer (some ⟨p, 0, none⟩)] w fun e w' => e = .returned (.tuple #[]) ∧ RdTo w w' S (.pointer (some ⟨p, 0, none⟩)) [] true := by
  have hb := hr.str
  have h0 : w.cell? ⟨p, 0, none⟩ = some (.slice A l.length c) := by rw [cell_of hb]; rfl
  have h1 : w.cell? ⟨p, 1, none⟩ = some (.bool bad) := by rw [cell_of hb]; rfl
  have f0 := frozen_of hb 0
  have f1 := frozen_of hb 1
  have HB := Aside0.mk hb
  have hne := hr.ne
  clear hr hb
  go_enter Try.func46, Try.ntmps46
  go_wp2
  go_end0
  have e1 := setCell_here HB.out 0 (.slice none 0 0)
  have e2 := setCell_here e1 1 (.bool true)
  refine ⟨rfl, .inr ⟨p, none, 0, rfl, ⟨e2, by simp, ⟨Kd.C_nil _ _, fun h => absurd h (by simp)⟩, hne, fun _ => rfl, by simp⟩, fun h => absurd h (by simp)⟩, ?_⟩
  exact ((Only.refl w _).setCell (p := ⟨p, 0, none⟩) (.inl (show Pt _ p from rfl)) _).setCell (p := ⟨p, 1, none⟩) (.inl (show Pt _ p from rfl)) _

-- AUX tookw
/-- What a taking leaves: the row taken (b, at A), the rest, which stays where b is written over. -/
structure TookTo (w w' : World) (S : Nat → Prop) (h : Value) (A : Option Addr) (b r : List Int) : Prop where
  row : Rb w' S A b
  nf : Nf w' A b
  rdto : RdTo w w' S h r false
  stab : RdX w' S h r false A b.length
theorem add_add (a : Addr) (hs : a.spot = none) (i j : Nat) : (a.add i).add j = a.add (i + j) := by
  obtain ⟨b, o, s⟩ := a
  simp only at hs
  subst hs
  rw [show (⟨b, o, none⟩ : Addr).add i = ⟨b, o + i, none⟩ by unfold Addr.add; split <;> simp_all]
  rw [show (⟨b, o + i, none⟩ : Addr).add j = ⟨b, o + i + j, none⟩ by unfold Addr.add; split <;> simp_all]
  rw [show (⟨b, o, none⟩ : Addr).add (i + j) = ⟨b, o + (i + j), none⟩ by unfold Addr.add; split <;> simp_all]
  rw [Nat.add_assoc]
theorem add_inj (a : Addr) (hs : a.spot = none) (i j : Nat) (h : a.add i = a.add j) : i = j := by
  obtain ⟨b, o, s⟩ := a
  simp only at hs
  subst hs
  rw [show (⟨b, o, none⟩ : Addr).add i = ⟨b, o + i, none⟩ by unfold Addr.add; split <;> simp_all, show (⟨b, o, none⟩ : Addr).add j = ⟨b, o + j, none⟩ by unfold Addr.add; split <;> simp_all] at h
  injection h with _ h _
  omega
theorem add_spot (a : Addr) (hs : a.spot = none) (i : Nat) : (a.add i).spot = none := by
  obtain ⟨b, o, s⟩ := a
  simp only at hs
  subst hs
  rw [show (⟨b, o, none⟩ : Addr).add i = ⟨b, o + i, none⟩ by unfold Addr.add; split <;> simp_all]
theorem took_of {w : World} {S : Nat → Prop} {p : Nat} {A : Option Addr} {c m : Nat} {l : List Int} (x : Cur 63 w S p A c l false) (y : Nf w A l) (hm : m ≤ l.length) {A2 : Option Addr} (hA2 : A2 = if c = m then A else A.map (·.add m)) :
    TookTo w (w.setCell ⟨p, 0, none⟩ (.slice A2 (l.length - m) (c - m))) S (.pointer (some ⟨p, 0, none⟩)) A (l.take m) (l.drop m) := by
  have o : Only w (w.setCell ⟨p, 0, none⟩ (.slice A2 (l.length - m) (c - m))) (Pt (.pointer (some ⟨p, 0, none⟩))) := (Only.refl w _).setCell (p := ⟨p, 0, none⟩) (.inl (show Pt _ p from rfl)) _
  have hS : ∀ i, S i → ¬ Pt (.pointer (some ⟨p, 0, none⟩)) i := fun i hi he => by
    have : p = i := by simpa [Pt] using he
    subst this
    exact x.ne hi
  have e1 := setCell_here x.str 0 (.slice A2 (l.length - m) (c - m))
  generalize w.setCell ⟨p, 0, none⟩ (.slice A2 (l.length - m) (c - m)) = w1 at *
  have r1 := x.row.only o hS
  have n1 := y.only x.row o hS
  have hlt : (l.take m).length = m := by rw [List.length_take]; omega
  have hld : (l.drop m).length = l.length - m := List.length_drop
  have hlen := x.len
  have rT : Rb w1 S A (l.take m) := ⟨by have := Kd.C_take (m := m) r1.row hm; exact this, fun hp a ha => r1.blk (by omega) a ha⟩
  have rD : Rb w1 S A2 (l.drop m) := by
    subst hA2
    have := Kd.C_drop (m := m) r1.row hm x.len
    refine ⟨by simpa [Kd.int, Kd.scalar] using this, fun hp a ha => ?_⟩
    rw [if_neg (by omega)] at ha
    rcases A with _ | a0
    · cases ha
    · simp only [Option.map_some, Option.some.injEq] at ha
      subst ha
      rw [add_blk]
      exact r1.blk (by omega) a0 rfl
  have nD : Nf w1 A2 (l.drop m) := fun hp a ha => by
    subst hA2
    rw [if_neg (by omega)] at ha
    rcases A with _ | a0
    · cases ha
    · simp only [Option.map_some, Option.some.injEq] at ha
      subst ha
      obtain ⟨q1, q2⟩ := n1 (by omega) a0 rfl
      exact ⟨add_spot a0 q1 m, by rw [add_blk]; exact q2⟩
  have str1 : w1.heap[p]? = some (.cells #[.slice A2 (l.drop m).length (c - m), .bool false] 63 (0, 0)) := by rw [hld]; exact e1
  have byt1 : ∀ x ∈ l.drop m, 0 ≤ x ∧ x < 256 := fun z hz => x.byt z (List.mem_of_mem_drop hz)
  refine ⟨rT, fun hp a ha => n1 (by omega) a ha, ⟨.inr ⟨p, A2, c - m, rfl, ⟨str1, by omega, rD, x.ne, fun h => (by cases h), byt1⟩, nD⟩, o⟩, .inr ⟨p, A2, c - m, rfl, ⟨str1, by omega, rD, x.ne, fun h => (by cases h), byt1⟩, nD, fun hp a ha e => x.ne (by rw [e]; exact rT.blk hp a ha), fun ad a he ha i hi j hj e => ?_⟩⟩
  have hA := hA2
  rw [if_neg (by omega), ha, he] at hA
  simp only [Option.map_some, Option.some.injEq] at hA
  subst hA
  obtain ⟨q1, q2⟩ := n1 (by omega) a ha
  rw [add_add a q1] at e
  have := add_inj a q1 _ _ e
  omega

-- AUX orw
theorem sumN_bd (b : List Int) (hb : ∀ x ∈ b, 0 ≤ x ∧ x < 256) (k : Nat) : 0 ≤ sumN b k ∧ sumN b k < 2 ^ (8 * k) := by
  induction k with
  | zero => simp [sumN]
  | succ k ih =>
    have hr : 0 ≤ rd b k ∧ rd b k < 256 := by
      unfold rd
      rw [Int.toNat_natCast, List.getD_eq_getElem?_getD]
      by_cases h : k < b.length
      · simp only [List.getElem?_eq_getElem h, Option.getD_some]
        exact hb _ (List.getElem_mem h)
      · simp [List.getElem?_eq_none (Nat.le_of_not_lt h)]
    have hp : (2 : Int) ^ (8 * (k + 1)) = 256 * 2 ^ (8 * k) := by
      rw [show 8 * (k + 1) = 8 + 8 * k by omega, Int.pow_add]; rfl
    have h0 : (0 : Int) < 2 ^ (8 * k) := Int.pow_pos (by decide)
    unfold sumN
    rw [hp]
    generalize (2 : Int) ^ (8 * k) = P at *
    generalize rd b k = c at *
    refine ⟨Int.add_nonneg ih.1 (Int.mul_nonneg hr.1 (by omega)), ?_⟩
    have : c * P ≤ 255 * P := Int.mul_le_mul_of_nonneg_right (by omega) (by omega)
    omega
/-- A byte is put above what is there. -/
theorem or_step (s c : Int) (k : Nat) (hk : k < 8) (h0 : 0 ≤ s) (h1 : s < 2 ^ (8 * k)) (c0 : 0 ≤ c) (c1 : c < 256) : bits .or .i64 s (IntKind.i64.wrap (c * 2 ^ (8 * k))) = IntKind.i64.wrap (s + c * 2 ^ (8 * k)) := by
  have hw : ∀ x : Int, BitVec.ofInt 64 (IntKind.i64.wrap x) = BitVec.ofInt 64 x := by
    intro x
    apply BitVec.eq_of_toInt_eq
    rw [BitVec.toInt_ofInt, BitVec.toInt_ofInt]
    simp only [IntKind.wrap, IntKind.bits, IntKind.signed, Int.bmod]
    simp
    split <;> split <;> split <;> omega
  show IntKind.i64.wrap (((BitVec.ofInt 64 s ||| BitVec.ofInt 64 (IntKind.i64.wrap (c * 2 ^ (8 * k)))).toNat : Nat) : Int) = _
  rw [hw]
  obtain ⟨S, rfl⟩ := Int.eq_ofNat_of_zero_le h0
  obtain ⟨C, rfl⟩ := Int.eq_ofNat_of_zero_le c0
  have hS : S < 2 ^ (8 * k) := by exact_mod_cast h1
  have hC : C < 256 := by omega
  have e1 : ((C : Int) * 2 ^ (8 * k)) = ((C * 2 ^ (8 * k) : Nat) : Int) := by push_cast; rfl
  have hp : 2 ^ (8 * k) * 256 ≤ 2 ^ 64 := by
    rw [show (256 : Nat) = 2 ^ 8 by rfl, ← Nat.pow_add]
    exact Nat.pow_le_pow_right (by decide) (by omega)
  have hCP : C * 2 ^ (8 * k) ≤ 255 * 2 ^ (8 * k) := Nat.mul_le_mul_right _ (by omega)
  rw [e1, BitVec.ofInt_natCast, BitVec.ofInt_natCast, BitVec.toNat_or, BitVec.toNat_ofNat, BitVec.toNat_ofNat, Nat.mod_eq_of_lt (by omega), Nat.mod_eq_of_lt (by omega), Nat.or_comm, nat_join (8 * k) _ _ (by simp) hS]
  congr 1
  push_cast
  omega
theorem wrap_i64 (n : Int) : IntKind.i64.wrap n = wrap64 n := by
  simp only [IntKind.wrap, IntKind.bits, IntKind.signed, wrap64]
  simp
  split <;> omega
def accN (b : List Int) (k : Nat) : Int := wrap64 (sumN b k)
theorem accN_zero (b : List Int) : accN b 0 = 0 := by simp [accN, sumN, wrap64]
theorem rd_bd {b : List Int} (hb : ∀ x ∈ b, 0 ≤ x ∧ x < 256) (k : Nat) (h : k < b.length) : 0 ≤ rd b k ∧ rd b k < 256 := by
  unfold rd
  rw [Int.toNat_natCast, List.getD_eq_getElem?_getD, List.getElem?_eq_getElem h, Option.getD_some]
  exact hb _ (List.getElem_mem h)
theorem accN_small (b : List Int) (hb : ∀ x ∈ b, 0 ≤ x ∧ x < 256) (k : Nat) (hk : k < 8) : accN b k = sumN b k := by
  have h := sumN_bd b hb k
  have hp : (2 : Int) ^ (8 * k) ≤ 2 ^ 56 := by
    have := Nat.pow_le_pow_right (n := 2) (by decide) (show 8 * k ≤ 56 by omega)
    exact_mod_cast this
  have : (2 : Int) ^ 56 = 72057594037927936 := by decide
  unfold accN wrap64
  omega
theorem accN_step (b : List Int) (hb : ∀ x ∈ b, 0 ≤ x ∧ x < 256) (k : Nat) (hk : k < 8) (hl : k < b.length) : bits .or .i64 (accN b k) (wrap64 (rd b k * 2 ^ (8 * k))) = accN b (k + 1) := by
  have h := sumN_bd b hb k
  have hr : 0 ≤ rd b k ∧ rd b k < 256 := by
    unfold rd
    rw [Int.toNat_natCast, List.getD_eq_getElem?_getD, List.getElem?_eq_getElem hl, Option.getD_some]
    exact hb _ (List.getElem_mem hl)
  rw [← wrap_i64, accN_small b hb k hk, or_step _ _ k hk h.1 h.2 hr.1 hr.2, wrap_i64]
  rfl

/-! ### wire_Reader_take: function 45 -/
theorem wire_Reader_take.no (S : Nat → Prop) (h : Value) (l : List Int) (bad : Bool) (n : Int) (w : World) (hr : Rd w S h l bad) (hn : tkS n l bad = none) :
    Calls Try.prog 45 #[h, .int .i64 n] w fun e w' => e = .returned (.tuple #[.slice none 0 0, .bool false]) ∧ RdTo w w' S h [] true := by
  have hc := tkS_none hn
  clear hn
  rcases hr with ⟨rfl, rfl, rfl⟩ | ⟨p, A, c, rfl, x, y⟩
  · clear hc
    go_enter Try.func45, Try.ntmps45
    go_wp2
    go_ret2
    exact ⟨rfl, RdTo.refl (.inl ⟨rfl, rfl, rfl⟩)⟩
  · have hb := x.str
    have h0 : w.cell? ⟨p, 0, none⟩ = some (.slice A l.length c) := by rw [cell_of hb]; rfl
    have h1 : w.cell? ⟨p, 1, none⟩ = some (.bool bad) := by rw [cell_of hb]; rfl
    have hm := x.row.row.2.1
    have X := Aside0.mk x
    have Y := Aside0.mk y
    clear hb
    rcases bad with _ | _
    · rcases hc with hc | hc
      · cases hc
      · clear x y
        by_cases hneg : n < 0
        · clear hc
          go_enter Try.func45, Try.ntmps45
          go_wp2_with fail
          refine (wire_Reader_fail.calls S p A c l false _ X.out).mono ?_
          rintro e w1 ⟨rfl, hx⟩
          go_wp2
          go_ret2
          exact ⟨rfl, hx⟩
        · have hgt : n > (l.length : Int) := by omega
          clear hc
          go_enter Try.func45, Try.ntmps45
          go_wp2_with fail
          refine (wire_Reader_fail.calls S p A c l false _ X.out).mono ?_
          rintro e w1 ⟨rfl, hx⟩
          go_wp2
          go_ret2
          exact ⟨rfl, hx⟩
    · have hl := x.z rfl
      subst hl
      clear hc x y
      go_enter Try.func45, Try.ntmps45
      go_wp2
      go_ret2
      exact ⟨rfl, RdTo.refl (.inr ⟨p, A, c, rfl, X.out, Y.out⟩)⟩

-- AUX takeyes
theorem take_yes (S : Nat → Prop) (h : Value) (l : List Int) (bad : Bool) (n : Int) (b r : List Int) (w : World) (hr : Rd w S h l bad) (hn : tkS n l bad = some (b, r)) :
    Calls Try.prog 45 #[h, .int .i64 n] w fun e w' => ∃ A', e = .returned (.tuple #[.slice A' b.length b.length, .bool true]) ∧ TookTo w w' S h A' b r := by
  obtain ⟨rfl, h0, h1, rfl, rfl⟩ := tkS_some hn
  clear hn
  obtain ⟨m, rfl⟩ := Int.eq_ofNat_of_zero_le h0
  rw [Int.toNat_natCast]
  have hm : m ≤ l.length := by omega
  rw [show (l.take m).length = m by rw [List.length_take]; omega]
  rcases hr with ⟨rfl, rfl, h⟩ | ⟨p, A, c, rfl, x, y⟩
  · cases h
  · have hb := x.str
    have h0 : w.cell? ⟨p, 0, none⟩ = some (.slice A l.length c) := by rw [cell_of hb]; rfl
    have h1 : w.cell? ⟨p, 1, none⟩ = some (.bool false) := by rw [cell_of hb]; rfl
    have f0 := frozen_of hb 0
    have hmx := x.row.row.2.1
    have hlc := x.len
    have HT := Aside0.mk (fun A2 hA2 => took_of (m := m) (A2 := A2) x y hm hA2)
    clear hb x y
    by_cases hcm : c = m
    · have HT2 := HT.out A (by rw [if_pos hcm])
      subst hcm
      rw [Nat.sub_self, show l.length - c = 0 by omega] at HT2
      have HT3 := Aside0.mk HT2
      clear HT HT2
      go_enter Try.func45, Try.ntmps45
      go_wp2
      go_ret2
      exact ⟨A, rfl, HT3.out⟩
    · have HT2 := HT.out _ (by rw [if_neg hcm])
      have HT3 := Aside0.mk HT2
      have hlt : m < c := by omega
      clear HT HT2
      go_enter Try.func45, Try.ntmps45
      go_wp2
      go_ret2
      exact ⟨A, rfl, HT3.out⟩

/-! ### wire_Reader_Num: function 24 -/
theorem wire_Reader_Num.calls (S : Nat → Prop) (h : Value) (l : List Int) (bad : Bool) (w : World) (hr : Rd w S h l bad) :
    Calls Try.prog 24 #[h] w fun e w' => e = .returned (.int .i64 (numS l bad).1) ∧ RdTo w w' S h (numS l bad).2.1 (numS l bad).2.2 := by
  rcases htk : tkS 8 l bad with _ | ⟨b, r⟩
  · have hb : numS l bad = (0, [], true) := by unfold numS; rw [htk]
    have HT := Aside0.mk (fun W (q : Rd W S h l bad) => wire_Reader_take.no S h l bad 8 W q htk)
    rw [hb]
    have HR := Aside0.mk hr
    clear htk hb hr
    go_enter Try.func24, Try.ntmps24
    go_wp2_with fail
    refine (HT.out _ HR.out).mono ?_
    rintro e w1 ⟨rfl, hx⟩
    go_wp2
    go_ret
    exact ⟨rfl, hx⟩
  · have hb : numS l bad = (unL b, r, false) := by unfold numS; rw [htk]
    have HT := Aside0.mk (fun W (q : Rd W S h l bad) => take_yes S h l bad 8 b r W q htk)
    have hbb := hr.byt
    have hbl : b.length = 8 ∧ ∀ x ∈ b, 0 ≤ x ∧ x < 256 := by
      obtain ⟨_, q1, q2, rfl, rfl⟩ := tkS_some htk
      refine ⟨by rw [List.length_take]; omega, fun x hx => hbb x (List.mem_of_mem_take hx)⟩
    rw [hb]
    have HBL := Aside0.mk hbl
    have HR := Aside0.mk hr
    have hb0 : b.length ≤ 8 := by omega
    have hb1 : 8 ≤ b.length := by omega
    clear htk hb hr hbl hbb
    go_enter Try.func24, Try.ntmps24
    go_wp2_with fail
    refine (HT.out _ HR.out).mono ?_
    rintro e w1 ⟨A, rfl, hx⟩
    have HX := Aside0.mk hx
    obtain ⟨ad, e, hc⟩ := C_cells hx.row.row (by omega)
    subst e
    have HC := Aside0.mk hc
    clear hc hx
    go_wp2
    go_loop [5, 17, 6, 7] (fun v5 v17 _ _ => ∃ k : Nat, k ≤ b.length ∧ v17 = .int .i64 k ∧ v5 = .int .i64 (accN b k)) (fun _ v17 _ _ => b.length - (intOf v17).toNat)
    case atStart => exact ⟨0, by omega, rfl, by rw [accN_zero]⟩
    case round =>
      obtain ⟨k, hk, rfl, rfl⟩ := hrel
      by_cases hlt : k < b.length
      · have hx := HC.out k hlt
        obtain ⟨r0, r1⟩ := rd_bd HBL.out.2 k hlt
        have hs := accN_step b HBL.out.2 k (by omega) hlt
        have HS := Aside0.mk hs
        have q1 : IntKind.i64.wrap (8 * (k : Int)) = 8 * (k : Int) := IntWalk.i64_in _ (by omega)
        have q2 : (8 * (k : Int)).toNat = 8 * k := by omega
        have q3 : (0 : Int) ≤ 8 * (k : Int) := by omega
        clear hs
        go_wp2
        refine ⟨⟨k + 1, by omega, by go_num, ?_⟩, by simp [intOf]; omega⟩
        rw [← HS.out]
      · obtain rfl : k = b.length := by omega
        go_wp2
        go_ret
        have e8 := HBL.out.1
        rw [e8]
        exact ⟨rfl, HX.out.rdto⟩

-- AUX rdlt
theorem Rd.lt {w : World} {S : Nat → Prop} {h : Value} {l : List Int} {bad : Bool} (x : Rd w S h l bad) : ∀ i, Pt h i → i < w.heap.size := by
  rintro i hi
  rcases x with ⟨rfl, _, _⟩ | ⟨p, A, c, rfl, x, y⟩
  · cases hi
  · have : p = i := by simpa [Pt] using hi
    subst this
    exact blk_size x.str
theorem numS_len (l : List Int) (bad : Bool) : (numS l bad).2.1.length ≤ l.length := by
  unfold numS
  split
  · rename_i b r h
    obtain ⟨_, _, _, _, rfl⟩ := tkS_some h
    simp
  · simp

/-! ### wire_Reader_Byte: function 36 -/
theorem wire_Reader_Byte.calls (S : Nat → Prop) (h : Value) (l : List Int) (bad : Bool) (w : World) (hr : Rd w S h l bad) :
    Calls Try.prog 36 #[h] w fun e w' => e = .returned (.int .u8 (byteS l bad).1) ∧ RdTo w w' S h (byteS l bad).2.1 (byteS l bad).2.2 := by
  rcases htk : tkS 1 l bad with _ | ⟨b, r⟩
  · have hb : byteS l bad = (0, [], true) := by unfold byteS; rw [htk]
    have HT := Aside0.mk (fun W (q : Rd W S h l bad) => wire_Reader_take.no S h l bad 1 W q htk)
    rw [hb]
    have HR := Aside0.mk hr
    clear htk hb hr
    go_enter Try.func36, Try.ntmps36
    go_wp2_with fail
    refine (HT.out _ HR.out).mono ?_
    rintro e w1 ⟨rfl, hx⟩
    go_wp2
    go_ret
    exact ⟨rfl, hx⟩
  · have hb : byteS l bad = (rd b 0, r, false) := by unfold byteS; rw [htk]
    have HT := Aside0.mk (fun W (q : Rd W S h l bad) => take_yes S h l bad 1 b r W q htk)
    have hbl : b.length = 1 := by
      obtain ⟨_, q1, q2, rfl, rfl⟩ := tkS_some htk
      rw [List.length_take]; omega
    rw [hb]
    have HBL := Aside0.mk hbl
    have HR := Aside0.mk hr
    have hb0 : 0 < b.length := by omega
    clear htk hb hr hbl
    go_enter Try.func36, Try.ntmps36
    go_wp2_with fail
    refine (HT.out _ HR.out).mono ?_
    rintro e w1 ⟨A, rfl, hx⟩
    have HX := Aside0.mk hx
    obtain ⟨ad, e, hc⟩ := C_cells hx.row.row hb0
    subst e
    have hc0 : w1.cell? ad = some (.int .u8 (rd b 0)) := by have := hc 0 hb0; rw [add_zero_] at this; exact this
    clear hc hx
    go_wp2
    go_ret
    exact ⟨rfl, HX.out.rdto⟩

/-! ### wire_Reader_Flag: function 23 -/
theorem wire_Reader_Flag.calls (S : Nat → Prop) (h : Value) (l : List Int) (bad : Bool) (w : World) (hr : Rd w S h l bad) :
    Calls Try.prog 23 #[h] w fun e w' => e = .returned (.bool (flagS l bad).1) ∧ RdTo w w' S h (flagS l bad).2.1 (flagS l bad).2.2 := by
  have HB := Aside0.mk (fun W (q : Rd W S h l bad) => wire_Reader_Byte.calls S h l bad W q)
  have hf : flagS l bad = if (byteS l bad).1 > 1 then (false, [], true) else (decide ((byteS l bad).1 = 1), (byteS l bad).2.1, (byteS l bad).2.2) := rfl
  have hz : (byteS l bad).1 > 1 → ∀ W, ¬ Rd W S (.pointer none) l bad := by
    intro hg W q
    rcases q with ⟨_, rfl, rfl⟩ | ⟨p, A, c, e, _⟩
    · exact absurd hg (by decide)
    · cases e
  have HR := Aside0.mk hr
  have HZ := Aside0.mk hz
  generalize byteS l bad = y at *
  obtain ⟨x, r, bd⟩ := y
  rw [hf]
  clear hf hr hz
  by_cases hg : x > 1
  · rw [if_pos hg]
    go_enter Try.func23, Try.ntmps23
    go_wp2_with fail
    refine (HB.out _ HR.out).mono ?_
    rintro e w1 ⟨rfl, hx⟩
    have HX := Aside0.mk hx
    rcases hx.rd with ⟨hp, _⟩ | ⟨p, A, c, hp, q1, q2⟩
    · subst hp
      exact absurd HR.out (HZ.out hg _)
    · have Q := Aside0.mk q1
      subst hp
      clear hx q1 q2
      go_wp2_with fail
      refine (wire_Reader_fail.calls S p A c _ _ _ Q.out).mono ?_
      rintro e w2 ⟨rfl, hy⟩
      have HY := Aside0.mk (HX.out.then_ hy)
      clear hy
      go_wp2
      go_ret
      exact ⟨rfl, HY.out⟩
  · rw [if_neg hg]
    by_cases h1 : x = 1
    · subst h1
      go_enter Try.func23, Try.ntmps23
      go_wp2_with fail
      refine (HB.out _ HR.out).mono ?_
      rintro e w1 ⟨rfl, hx⟩
      have HX := Aside0.mk hx
      clear hx
      go_wp2
      go_ret
      exact ⟨rfl, HX.out⟩
    · have h2 : decide (x = 1) = false := decide_eq_false h1
      have h3 : (x == 1) = false := by simpa using h1
      rw [h2]
      go_enter Try.func23, Try.ntmps23
      go_wp2_with fail
      refine (HB.out _ HR.out).mono ?_
      rintro e w1 ⟨rfl, hx⟩
      have HX := Aside0.mk hx
      clear hx
      go_wp2
      go_ret
      exact ⟨rfl, HX.out⟩

/-! ### wire_Writer_add: function 47 -/
theorem wire_Writer_add.calls (S : Nat → Prop) (z : Bool) (h : Value) (l : List Int) (A : Option Addr) (c : Nat) (bs : List Int) (w : World) (hw : Wr w S z h l) (hr : Kd.C (Kd.int .u8) w A bs.length bs) (hl : l.length + bs.length ≤ 140737488355328) :
    Calls Try.prog 47 #[h, .slice A bs.length c] w fun e w' => e = .returned (.tuple #[]) ∧ WrTo w w' S z h (app z l bs) := by
  rcases hw with ⟨rfl, rfl, rfl⟩ | ⟨rfl, p, v, rfl, hp, hb, hR⟩
  · clear hr
    go_enter Try.func47, Try.ntmps47
    go_wp2
    go_end0
    exact ⟨rfl, WrTo.refl (.inl ⟨rfl, rfl, rfl⟩)⟩
  · have hcell : w.cell? ⟨p, 0, none⟩ = some v := by rw [cell_of hb]; rfl
    have hplt := blk_size hb
    have HB := Aside0.mk hb
    have HR := Aside0.mk hr
    have HO := Aside0.mk (Kd.R_mono hR (fun k hk => (.inl hk : S k ∨ w.heap.size ≤ k)))
    have HO0 := Aside0.mk hR
    clear hb hr hR
    go_enter Try.func47, Try.ntmps47
    go_wp2_with (((with_reducible refine gate_builtin (b := .append) (xs := #[.tmp 10, .tmp 11]) rfl ?_); at_builtin; refine Kd.R_append_rows (Kd.int .u8) (w0 := w) 0 rfl (.tmp 10) (.tmp 11) 26 5 (.int .u8 0) 1 rfl Try.underlying26 info5 rfl (by decide) (by omega) v l bs _ _ _ (fun k => S k ∨ w.heap.size ≤ k) (fun _ => False) rfl rfl HO.out HR.out (fun _ _ h => h) (fun _ h => h.elim) (fun _ hk => .inr hk) (Below.refl _ _) (Nat.zero_le _) ?aL ?_; (case aL => omega); intro v1 w1 ho hb1 hg hat; clear hb1 hat; obtain ⟨A1, c1, rfl, -⟩ := Kd.R_reads ho; have HO1 := Aside0.mk ho; have HG := Aside0.mk hg; have hcell1 : w1.cell? ⟨p, 0, none⟩ = some v := (by rw [cell_of ((hg.block p hplt (fun e => by obtain ⟨inner, hoo⟩ := Kd.R_own HO0.out; obtain ⟨cells, hc⟩ := own_typed hoo p e.symm; rw [HB.out] at hc; injection hc with hc; injection hc with _ h2 _; exact absurd h2 (by decide))).trans HB.out)]; rfl); have hfz1 : w1.frozen? ⟨p, 0, none⟩ = false := (by rw [frozen_of ((hg.block p hplt (fun e => by obtain ⟨inner, hoo⟩ := Kd.R_own HO0.out; obtain ⟨cells, hc⟩ := own_typed hoo p e.symm; rw [HB.out] at hc; injection hc with hc; injection hc with _ h2 _; exact absurd h2 (by decide))).trans HB.out)]); clear ho hg))
    go_end0
    exact ⟨rfl, by have := wr_put hp HB.out HO0.out HO1.out HG.out; simp only [List.length_append] at this; exact this⟩

-- AUX numL
/-- A number's bytes. -/
def numL (n : Int) : List Int := (List.range 8).map fun i => n / 2 ^ (8 * i) % 256
theorem numL_len (n : Int) : (numL n).length = 8 := by simp [numL]
def numA (n : Int) (k : Nat) : Array Value := ((List.range 8).map fun i => if i < k then .int .u8 (n / 2 ^ (8 * i) % 256) else .int .u8 0).toArray
theorem numA_at (n : Int) (k : Nat) (h : k < 8) : (numA n k)[k]? = some (.int .u8 0) := by simp [numA, h]
theorem numA_set (n : Int) (k : Nat) (h : k < 8) (x : Int) (hx : x = n / 2 ^ (8 * k) % 256) : (numA n k).setIfInBounds k (.int .u8 x) = numA n (k + 1) := by
  subst hx
  refine Array.ext_getElem? fun i => ?_
  simp only [numA, Array.getElem?_setIfInBounds, List.getElem?_toArray, List.getElem?_map]
  by_cases e : k = i
  · subst e
    simp [h]
  · by_cases hi : i < 8
    · have : (i < k + 1) = (i < k) := by simp only [eq_iff_iff]; omega
      simp [e, hi, this]
    · simp [e, hi]
theorem numA_C (n : Int) (w : World) : Kd.C (Kd.int .u8) (w.alloc (.cells (numA n 8) 70)) (some ⟨w.heap.size, 0, none⟩) (numL n).length (numL n) :=
  C_block (Kd.int .u8) rfl (heap_alloc_new w _) (numL n) (by rw [numL_len]; omega) (fun j x hj => by
    have hlt : j < 8 := by
      rcases Nat.lt_or_ge j 8 with h | h
      · exact h
      · rw [List.getElem?_eq_none (by rw [numL_len]; exact h)] at hj; cases hj
    refine ⟨.int .u8 x, ?_, rfl⟩
    simp only [numL, List.getElem?_map, List.getElem?_range hlt, Option.map_some, Option.some.injEq] at hj
    simp [numA, hlt, hj])

/-! ### wire_Writer_Num: function 26 -/
theorem wire_Writer_Num.calls (S : Nat → Prop) (z : Bool) (h : Value) (l : List Int) (n : Int) (w : World) (hw : Wr w S z h l) (hl : l.length + 8 ≤ 140737488355328) (h1 : -9223372036854775808 ≤ n) (h2 : n ≤ 9223372036854775807) :
    Calls Try.prog 26 #[h, .int .i64 n] w fun e w' => e = .returned (.tuple #[]) ∧ WrTo w w' S z h (app z l (numL n)) := by
  have HW := Aside0.mk hw
  clear hw
  go_enter Try.func26, Try.ntmps26
  go_wp2
  go_loopw [5, 6] (fun _ v6 wr => ∃ k : Nat, k ≤ 8 ∧ v6 = .int .i64 k ∧ wr = w.alloc (.cells (numA n k) 70)) (fun _ v6 _ => 8 - (intOf v6).toNat)
  case atStart => exact ⟨0, by omega, rfl, rfl⟩
  case round =>
    obtain ⟨k, hk, rfl, rfl⟩ := hrel
    by_cases hlt : k < 8
    · have hat := numA_at n k hlt
      go_wp2
      exact ⟨⟨k + 1, by omega, by go_num, by rw [numA_set n k hlt _ (by first | rfl | (congr 1; done) | skip)]⟩, by simp [intOf]; omega⟩
    · obtain rfl : k = 8 := by omega
      go_wp2_with fail
      have hc := numA_C n w
      refine (wire_Writer_add.calls S z h l (some ⟨w.heap.size, 0, none⟩) 8 (numL n) _ (HW.out.below (below_alloc (Below.refl _ _) _)) hc (by rw [numL_len]; exact hl)).mono ?_
      rintro e w1 ⟨rfl, hx⟩
      go_wp2
      go_end0
      exact ⟨rfl, hx.late (below_alloc (Below.refl _ _) _)⟩

/-! ### wire_Writer_Flag: function 27 -/
theorem wire_Writer_Flag.calls (S : Nat → Prop) (z : Bool) (h : Value) (l : List Int) (b : Bool) (w : World) (hw : Wr w S z h l) (hl : l.length + 1 ≤ 140737488355328) :
    Calls Try.prog 27 #[h, .bool b] w fun e w' => e = .returned (.tuple #[]) ∧ WrTo w w' S z h (app z l ([if b = true then 1 else 0])) := by
  have HW := Aside0.mk hw
  clear hw
  cases b
  all_goals
    go_enter Try.func27, Try.ntmps27
    go_wp2_with fail
  · have hc := C_lit w [0] (by simp) (0, 0)
    refine (wire_Writer_add.calls S z h l (some ⟨w.heap.size, 0, none⟩) 1 [0] _ (HW.out.below (below_alloc (Below.refl _ _) _)) hc (by simpa using hl)).mono ?_
    rintro e w1 ⟨rfl, hx⟩
    go_wp2
    go_end0
    exact ⟨rfl, hx.late (below_alloc (Below.refl _ _) _)⟩
  · have hc := C_lit w [1] (by simp) (0, 0)
    refine (wire_Writer_add.calls S z h l (some ⟨w.heap.size, 0, none⟩) 1 [1] _ (HW.out.below (below_alloc (Below.refl _ _) _)) hc (by simpa using hl)).mono ?_
    rintro e w1 ⟨rfl, hx⟩
    go_wp2
    go_end0
    exact ⟨rfl, hx.late (below_alloc (Below.refl _ _) _)⟩

/-! ### wire_sized_string: function 49 -/
theorem wire_sized_string.calls (S : Nat → Prop) (z : Bool) (h : Value) (l : List Int) (s : ByteArray) (w : World) (hw : Wr w S z h l) (hl : l.length + 8 + s.size ≤ 140737488355328) :
    Calls Try.prog 49 #[h, .string s] w fun e w' => e = .returned (.tuple #[]) ∧ WrTo w w' S z h (app z l (numL s.size ++ bytesOf s)) := by
  have HW := Aside0.mk hw
  have kb := fun W => print_bytes (P := Try.prog) 9 26 5 Try.underlying9 Try.underlying26 Try.underlying5 s W
  have hal := app_len z l (numL s.size)
  rw [numL_len] at hal
  have HAL := Aside0.mk hal
  have hbl := bytesOf_length s
  have HBL := Aside0.mk hbl
  clear hw hal hbl
  go_enter Try.func49, Try.ntmps49
  go_wp2_with fail
  refine (wire_Writer_Num.calls S z h l s.size _ HW.out (by omega) (by omega) (by omega)).mono ?_
  rintro e w1 ⟨rfl, hx⟩
  have HX := Aside0.mk hx
  clear hx
  go_wp2_with fail
  have hbb := bytes_below (Below.refl w1.heap.size w1) (Nat.le_refl _) 5 s
  have hrd : Kd.C (Kd.int .u8) (Lib.bytesWorld w1 5 s) (some ⟨w1.heap.size, 0, none⟩) (bytesOf s).length (bytesOf s) := by
    obtain ⟨q1, q2, q3⟩ := bytes_reads w1 5 s (by omega)
    rw [HBL.out]
    refine ⟨q1, q2, fun hp => ?_⟩
    obtain ⟨ad, e, hc⟩ := q3 hp
    have := C_mk (k := .u8) (w := Lib.bytesWorld w1 5 s) (A := some ⟨w1.heap.size, 0, none⟩) (l := bytesOf s) (by omega) (fun _ => ⟨ad, e, fun j hj => by rw [hc j (by omega)]; simp [rd]⟩)
    exact this.2.2 (by omega)
  have ha := wire_Writer_add.calls _ z h _ (some ⟨w1.heap.size, 0, none⟩) (grownCap w1 s.size 0 5) (bytesOf s) _ (HX.out.wr.below hbb) hrd (by have := HAL.out; have := HBL.out; omega)
  rw [HBL.out] at ha
  refine ha.mono ?_
  rintro e w2 ⟨rfl, hy⟩
  go_wp2
  go_end0
  rw [app_app] at hy
  exact ⟨rfl, HX.out.then_ (hy.late hbb)⟩

-- AUX numsL
def numsL (ns : List Int) : List Int := ns.flatMap numL
theorem numsL_len (ns : List Int) : (numsL ns).length = 8 * ns.length := by
  induction ns with
  | nil => rfl
  | cons a t ih => simp only [numsL, List.flatMap_cons, List.length_append, numL_len, List.length_cons]; have := ih; unfold numsL at this; omega
theorem numsL_snoc (ns : List Int) (k : Nat) (h : k < ns.length) : numsL (ns.take (k + 1)) = numsL (ns.take k) ++ numL (rd ns k) := by
  unfold numsL
  rw [List.take_succ_eq_append_getElem h, List.flatMap_append]
  simp [rd, h]

/-! ### laminanum_Ints: function 13 -/
def laminanum_Ints.l0 : Nat → List Int → List Int → Int → Int → Option (Bool)
  | 0, _, _, _, _ => none
  | k + 1, x0, x1, x12, x13 => if x13 < x12 then (if 0 ≤ x13 then (if x13 < (x0.length : Int) then (if x13 < (x1.length : Int) then (if (rd x0 x13) = (rd x1 x13) then (laminanum_Ints.l0 k x0 x1 x12 (wrap64 (x13 + 1))) else (some false)) else (none)) else (none)) else (none)) else (some true)
def laminanum_Ints.f (k : Nat) (l0 : List Int) (l1 : List Int) : Option (Bool) := if (l0.length : Int) = (l1.length : Int) then (laminanum_Ints.l0 k l0 l1 (l0.length : Int) 0) else (some false)
theorem laminanum_Ints.mono_l : ∀ k, (∀ y0 y1 y2 y3, LeO (laminanum_Ints.l0 k y0 y1 y2 y3) (laminanum_Ints.l0 (k + 1) y0 y1 y2 y3))
  | 0 => fun _ _ _ _ r h => by simp [laminanum_Ints.l0] at h
  | k + 1 => by
    have ih0 := laminanum_Ints.mono_l k
    · intro y0 y1 y2 y3
      unfold laminanum_Ints.l0
      repeat' first
      | (with_reducible exact ih0 _ _ _ _)
      | (with_reducible exact LeO.refl _)
      | (with_reducible exact LeO.none _)
      | (with_reducible refine LeO.ite ?_ ?_)
      | (with_reducible refine LeO.bind ?_ (fun _ => ?_))
      | exact ih0 _ _ _ _
      | exact LeO.none _
      | refine LeO.ite ?_ ?_
      | refine LeO.bind ?_ (fun _ => ?_)
theorem laminanum_Ints.mono : ∀ a0 a1 k, LeO (laminanum_Ints.f k a0 a1) (laminanum_Ints.f (k + 1) a0 a1) := by
  intro a0 a1 k
  have ih0 := laminanum_Ints.mono_l k
  unfold laminanum_Ints.f
  repeat' first
      | (with_reducible exact ih0 _ _ _ _)
      | (with_reducible exact LeO.refl _)
      | (with_reducible exact LeO.none _)
      | (with_reducible refine LeO.ite ?_ ?_)
      | (with_reducible refine LeO.bind ?_ (fun _ => ?_))
      | exact ih0 _ _ _ _
      | exact LeO.none _
      | refine LeO.ite ?_ ?_
      | refine LeO.bind ?_ (fun _ => ?_)
set_option maxHeartbeats 8000000 in
set_option maxRecDepth 100000 in
theorem laminanum_Ints.calls (k : Nat) (A0 : Option Addr) (c0 : Nat) (l0 : List Int) (A1 : Option Addr) (c1 : Nat) (l1 : List Int) (r : Bool) (w : World) (hr0 : Kd.C (Kd.int .i64) w A0 l0.length l0) (hc0 : l0.length ≤ c0) (hr1 : Kd.C (Kd.int .i64) w A1 l1.length l1) (hc1 : l1.length ≤ c1) (h : laminanum_Ints.f k l0 l1 = some r) :
    Calls Try.prog 13 #[.slice A0 l0.length c0, .slice A1 l1.length c1] w fun e w' => e = .returned (.bool r) ∧ Drawn0 w w' := by
  have HR0 := Aside0.mk hr0
  have HC0 := Aside0.mk hc0
  clear hr0 hc0
  have HR1 := Aside0.mk hr1
  have HC1 := Aside0.mk hc1
  clear hr1 hc1
  have H : (if (l0.length : Int) = (l1.length : Int) then (laminanum_Ints.l0 k l0 l1 (l0.length : Int) 0) else (some false)) = some r := h
  clear h
  by_cases c3 : (l0.length : Int) = (l1.length : Int)
  · rw [if_pos c3] at H
    have c3b0 : ((l0.length : Int) == (l1.length : Int)) = true := beq_iff_eq.mpr c3
    have c3b1 : ((l0.length : Int) != (l1.length : Int)) = false := bne_eq_false_iff_eq.mpr c3
    have c3b2 : (l0.length == l1.length) = true := by first | simpa using c3 | (simp at c3 ⊢; omega)
    clear c3
    have H' := Aside0.mk H
    clear H
    go_enter Try.func13, Try.ntmps13
    go_wp2
    repeat (go_quiet (fail); try go_wp2)
    go_loopg [13] k (fun kq v13 w' => ∃ (x13_1 : Int), v13 = .int .i64 x13_1 ∧ Aside0 (laminanum_Ints.l0 kq l0 l1 (l0.length : Int) x13_1 = some r) ∧ Aside0 (kq ≤ k) ∧ Drawn0 w w')
    case atStart => exact ⟨(0), (by first | rfl | (simp; done) | (simp [*]; done)), H', ⟨Nat.le_refl _⟩, by repeat (first | exact Drawn0.refl _ | apply Drawn0.step)⟩
    case round =>
      clear H'
      try clear c1
      try clear p2
      try clear c3
      try clear c3b0
      try clear c3b1
      try clear c3b2
      obtain ⟨x13_1, rfl, HA, HK1, ⟨m1, rfl⟩⟩ := hrel
      cases gk with
      | zero => exact absurd HA.out (by simp [laminanum_Ints.l0])
      | succ k1 =>
        have H := HA.out
        clear HA
        simp only [laminanum_Ints.l0] at H
        by_cases c4 : x13_1 < (l0.length : Int)
        · rw [if_pos c4] at H
          have c4b0 : decide (x13_1 < (l0.length : Int)) = true := decide_eq_true c4
          clear c4
          by_cases c5 : 0 ≤ x13_1
          · rw [if_pos c5] at H
            have c5b0 : decide (0 ≤ x13_1) = true := decide_eq_true c5
            clear c5
            by_cases c6 : x13_1 < (l0.length : Int)
            · rw [if_pos c6] at H
              have c6b0 : decide (x13_1 < (l0.length : Int)) = true := decide_eq_true c6
              clear c6
              by_cases c7 : x13_1 < (l1.length : Int)
              · rw [if_pos c7] at H
                have c7b0 : decide (x13_1 < (l1.length : Int)) = true := decide_eq_true c7
                clear c7
                by_cases c8 : (rd l0 x13_1) = (rd l1 x13_1)
                · rw [if_pos c8] at H
                  have c8b0 : ((rd l0 x13_1) == (rd l1 x13_1)) = true := beq_iff_eq.mpr c8
                  have c8b1 : ((rd l0 x13_1) != (rd l1 x13_1)) = false := bne_eq_false_iff_eq.mpr c8
                  clear c8
                  have H' := Aside0.mk H
                  clear H
                  have p122 : 0 ≤ (x13_1 : Int) := of_decide_eq_true (by first | (with_reducible assumption) | assumption)
                  have q122 : x13_1 < (l0.length : Int) := of_decide_eq_true (by first | (with_reducible assumption) | assumption)
                  obtain ⟨ad122, e122, hx122_0⟩ := Kd.at_int HR0.out x13_1 p122 q122
                  cases e122
                  replace p122 := eq_true p122
                  replace q122 := eq_true q122
                  have p123 : 0 ≤ (x13_1 : Int) := of_decide_eq_true (by first | (with_reducible assumption) | assumption)
                  have q123 : x13_1 < (l1.length : Int) := of_decide_eq_true (by first | (with_reducible assumption) | assumption)
                  obtain ⟨ad123, e123, hx123_0⟩ := Kd.at_int HR1.out x13_1 p123 q123
                  cases e123
                  replace p123 := eq_true p123
                  replace q123 := eq_true q123
                  go_wp2
                  repeat (go_quiet (fail); try go_wp2)
                  go_roundg k1
                  case measure => have := HK1.out; omega
                  case rel => exact ⟨(wrap64 (x13_1 + 1)), (by first | rfl | (simp; done) | (simp [*]; done)), H', ⟨by have := HK1.out; omega⟩, by repeat (first | exact Drawn0.refl _ | apply Drawn0.step)⟩
                · rw [if_neg c8] at H
                  have c8b0 : ((rd l0 x13_1) == (rd l1 x13_1)) = false := beq_eq_false_iff_ne.mpr c8
                  have c8b1 : ((rd l0 x13_1) != (rd l1 x13_1)) = true := bne_iff_ne.mpr c8
                  obtain rfl := Option.some.inj H
                  have p122 : 0 ≤ (x13_1 : Int) := of_decide_eq_true (by first | (with_reducible assumption) | assumption)
                  have q122 : x13_1 < (l0.length : Int) := of_decide_eq_true (by first | (with_reducible assumption) | assumption)
                  obtain ⟨ad122, e122, hx122_0⟩ := Kd.at_int HR0.out x13_1 p122 q122
                  cases e122
                  replace p122 := eq_true p122
                  replace q122 := eq_true q122
                  have p123 : 0 ≤ (x13_1 : Int) := of_decide_eq_true (by first | (with_reducible assumption) | assumption)
                  have q123 : x13_1 < (l1.length : Int) := of_decide_eq_true (by first | (with_reducible assumption) | assumption)
                  obtain ⟨ad123, e123, hx123_0⟩ := Kd.at_int HR1.out x13_1 p123 q123
                  cases e123
                  replace p123 := eq_true p123
                  replace q123 := eq_true q123
                  go_wp2
                  repeat (go_quiet (fail); try go_wp2)
                  go_ret
                  exact ⟨by first | rfl | (simp; done) | (simp [*]; done), by repeat (first | exact Drawn0.refl _ | apply Drawn0.step)⟩
              · rw [if_neg c7] at H
                exact absurd H (by simp)
            · rw [if_neg c6] at H
              exact absurd H (by simp)
          · rw [if_neg c5] at H
            exact absurd H (by simp)
        · rw [if_neg c4] at H
          have c4b0 : decide (x13_1 < (l0.length : Int)) = false := decide_eq_false c4
          clear c4
          obtain rfl := Option.some.inj H
          go_wp2
          repeat (go_quiet (fail); try go_wp2)
          go_ret
          exact ⟨by first | rfl | (simp; done) | (simp [*]; done), by repeat (first | exact Drawn0.refl _ | apply Drawn0.step)⟩
  · rw [if_neg c3] at H
    have c3b0 : ((l0.length : Int) == (l1.length : Int)) = false := beq_eq_false_iff_ne.mpr c3
    have c3b1 : ((l0.length : Int) != (l1.length : Int)) = true := bne_iff_ne.mpr c3
    have c3b2 : (l0.length == l1.length) = false := by first | simpa using c3 | (simp at c3 ⊢; omega)
    obtain rfl := Option.some.inj H
    go_enter Try.func13, Try.ntmps13
    go_wp2
    repeat (go_quiet (fail); try go_wp2)
    go_ret
    exact ⟨by first | rfl | (simp; done) | (simp [*]; done), by repeat (first | exact Drawn0.refl _ | apply Drawn0.step)⟩

-- AUX intsw
theorem ints_go (a b : List Int) (hl : a.length = b.length) (ha : a.length ≤ 1000000) : ∀ (m i k : Nat), i + m = a.length → m < k → laminanum_Ints.l0 k a b (a.length : Int) i = some (decide (a.drop i = b.drop i)) := by
  intro m
  induction m with
  | zero =>
    intro i k hi hk
    obtain ⟨k, rfl⟩ : ∃ k', k = k' + 1 := ⟨k - 1, by omega⟩
    rw [laminanum_Ints.l0, if_neg (by omega), List.drop_eq_nil_of_le (by omega), List.drop_eq_nil_of_le (by omega)]
    rfl
  | succ m ih =>
    intro i k hi hk
    obtain ⟨k, rfl⟩ : ∃ k', k = k' + 1 := ⟨k - 1, by omega⟩
    have e : wrap64 ((i : Int) + 1) = ((i + 1 : Nat) : Int) := by unfold wrap64; omega
    have r0 : rd a i = a[i] := by simp [rd, show i < a.length by omega]
    have r1 : rd b i = b[i] := by simp [rd, show i < b.length by omega]
    rw [laminanum_Ints.l0, if_pos (by omega), if_pos (by omega), if_pos (by omega), if_pos (by omega), e, ih (i + 1) k (by omega) (by omega), r0, r1]
    rw [List.drop_eq_getElem_cons (show i < a.length by omega), List.drop_eq_getElem_cons (show i < b.length by omega)]
    by_cases h : a[i] = b[i]
    · rw [if_pos h, h]; simp only [List.cons.injEq, true_and]
    · rw [if_neg h]; simp only [List.cons.injEq, h, false_and, decide_false]
theorem ints_refl (a : List Int) (ha : a.length ≤ 1000000) (k : Nat) (hk : a.length < k) : laminanum_Ints.f k a a = some true := by
  unfold laminanum_Ints.f
  rw [if_pos rfl, show (0 : Int) = ((0 : Nat) : Int) from rfl, ints_go a a rfl ha a.length 0 k (by omega) hk]
  simp

/-! ### laminalaw03_alive: function 8 -/
theorem laminalaw03_alive.calls (w : World) : Calls Try.prog 8 #[] w fun e w' => e = .returned (.bool true) ∧ Below w.heap.size w w' := by
  go_enter Try.func8, Try.ntmps8
  go_wp2_with fail
  refine (wire_Writer_Num.calls _ false _ [] 258 _ (wr_new w) (by simp) (by omega) (by omega)).mono ?_
  rintro e w1 ⟨rfl, h1⟩
  have H1 := Aside0.mk h1
  clear h1
  go_wp2_with fail
  refine (wire_Writer_Flag.calls _ false _ _ true _ H1.out.wr (by decide +kernel)).mono ?_
  rintro e w2 ⟨rfl, h2⟩
  have h2 := H1.out.then_ h2
  rw [show app false (app false [] (numL 258)) [if true = true then 1 else 0] = [2, 1, 0, 0, 0, 0, 0, 0, 1] by decide +kernel] at h2
  have HB2 := Aside0.mk ((below_alloc (Below.refl w.heap.size w) (.cells #[.slice none 0 0] 28)).trans (h2.only.below (B := w.heap.size) (fun i hi => by omega) (by simp)))
  have H2 := Aside0.mk h2
  clear h2 H1
  go_wp2_with fail
  refine (wire_Writer_Out.calls _ false _ _ _ H2.out.wr (by simp)).mono ?_
  rintro e w3 ⟨v3, rfl, ho3, hb3⟩
  obtain ⟨A3, c3, rfl, -⟩ := Kd.R_reads ho3
  have HO3 := Aside0.mk ho3
  have HB3 := Aside0.mk (below_step HB2.out hb3)
  clear ho3 hb3
  go_wp2_with fail
  refine (wire_NewReader.calls A3 c3 [2, 1, 0, 0, 0, 0, 0, 0, 1] _ (Kd.R_reads' HO3.out).2.2 (by decide) (by simp)).mono ?_
  rintro e w4 ⟨p, rfl, h4⟩
  have HB4 := Aside0.mk (below_step HB3.out h4.below)
  have H4 := Aside0.mk h4
  obtain ⟨ad, e, hc⟩ := C_cells (Kd.C_below (Kd.R_reads' HO3.out).2.2 h4.below) (by simp)
  subst e
  have hc0 : w4.cell? ad = some (.int .u8 2) := by have := hc 0 (by simp); rw [add_zero_] at this; exact this
  have hc1 : w4.cell? ⟨ad.block, ad.off + 1, none⟩ = some (.int .u8 1) := hc 1 (by simp)
  have hc8 : w4.cell? ⟨ad.block, ad.off + 8, none⟩ = some (.int .u8 1) := hc 8 (by simp)
  clear h4 hc
  go_wp2_with fail
  refine (wire_Reader_Num.calls _ _ _ _ _ H4.out.rd).mono ?_
  rintro e w5 ⟨rfl, h5⟩
  rw [show numS [2, 1, 0, 0, 0, 0, 0, 0, 1] false = (258, [1], false) by decide +kernel] at h5 ⊢
  have H5 := Aside0.mk h5
  clear h5 hc0 hc1 hc8
  go_wp2_with fail
  refine (wire_Reader_Flag.calls _ _ _ _ _ H5.out.rd).mono ?_
  rintro e w6 ⟨rfl, h6⟩
  rw [show flagS [1] false = (true, [], false) by decide +kernel] at h6 ⊢
  have H6 := Aside0.mk (H5.out.then_ h6)
  clear h6
  go_wp2_with fail
  refine (wire_Reader_End.calls _ _ _ _ _ H6.out.rd).mono ?_
  rintro e w7 ⟨rfl, rfl⟩
  rw [show endE [] false = none by decide +kernel, errW_none]
  go_wp2
  go_ret
  refine ⟨rfl, HB4.out.trans (H6.out.only.below (B := w.heap.size) (fun i hi => ?_) HB4.out.size)⟩
  have := (H4.out.pt i hi).1
  have := HB3.out.size
  omega

-- AUX valw
/-- A value's bytes, by its kind. -/
def valL (kind n : Int) (B Ns : List Int) : List Int :=
  if kind = 0 then [n % 256] else if kind = 2 then [if n = 1 then 1 else 0] else if kind = 3 then numL B.length ++ B else if kind = 4 then numL B.length ++ B else if kind = 5 then numL Ns.length ++ numsL Ns else numL n
theorem valL_len (kind n : Int) (B Ns : List Int) (hB : B.length ≤ 1000) (hN : Ns.length ≤ 1000) : (valL kind n B Ns).length ≤ 9000 := by
  unfold valL
  split
  · simp
  split
  · simp
  split
  · rw [List.length_append, numL_len]; omega
  split
  · rw [List.length_append, numL_len]; omega
  split
  · rw [List.length_append, numL_len, numsL_len]; omega
  · rw [numL_len]; omega
theorem bytesOf_str {l : List Int} (h : ∀ x ∈ l, 0 ≤ x ∧ x < 256) : bytesOf (strOfNums l) = l := by
  unfold bytesOf
  rw [strOfNums_data]
  induction l with
  | nil => rfl
  | cons x l ih =>
    have hx := h x (List.mem_cons_self ..)
    simp only [List.map_cons]
    rw [ih (fun y hy => h y (List.mem_cons_of_mem _ hy))]
    congr 1
    rw [UInt8.toNat_ofNat']
    omega

-- AUX readw
theorem flagS_bad (l : List Int) (bad : Bool) : (flagS l bad).2.2 = true → (flagS l bad).1 = false := by
  intro h
  unfold flagS at h ⊢
  split
  · rfl
  · rename_i hg
    rw [if_neg hg] at h
    have : byteS l bad = (0, [], true) := by
      unfold byteS at h ⊢
      split
      · rename_i b r hh
        rw [hh] at h
        cases h
      · rfl
    rw [this]
    rfl
theorem numsR_len (l : List Int) (bad : Bool) : ∀ k, (numsR k l bad).1.length = k := by
  intro k
  induction k with
  | zero => rfl
  | succ k ih => simp [numsR, ih]
theorem numsS_len (l : List Int) (bad : Bool) : 8 * (numsS l bad).1.length ≤ l.length := by
  unfold numsS
  have h := numS_len l bad
  split
  · simp
  · rename_i hg
    rw [numsR_len]
    omega
theorem ints_any (a b : List Int) (hl : a.length = b.length) (ha : a.length ≤ 1000000) : ∃ k, laminanum_Ints.f k a b = some (decide (a = b)) := by
  refine ⟨a.length + 1, ?_⟩
  unfold laminanum_Ints.f
  rw [if_pos (by omega), show (0 : Int) = ((0 : Nat) : Int) from rfl, ints_go a b hl ha a.length 0 (a.length + 1) (by omega) (by omega)]
  simp
theorem ints_some (a b : List Int) (ha : 8 * a.length ≤ 1000000) : ∃ r, laminanum_Ints.f (a.length + 1) a b = some r ∧ (a = b → r = true) := by
  by_cases hl : a.length = b.length
  · refine ⟨decide (a = b), ?_, fun h => by simp [h]⟩
    unfold laminanum_Ints.f
    rw [if_pos (by omega), show (0 : Int) = ((0 : Nat) : Int) from rfl, ints_go a b hl (by omega) a.length 0 (a.length + 1) (by omega) (by omega)]
    simp
  · refine ⟨false, ?_, fun h => absurd (by rw [h]) hl⟩
    unfold laminanum_Ints.f
    rw [if_neg (by omega)]
theorem Kd.R_only_lt {α : Type} {d : Kd α} {e : Nat} {w0 w w' : World} {ok T : Nat → Prop} {v : Value} {xs : List α} (h : d.R e w w0.heap.size ok v xs) (k : Only w w' T) (hd : ∀ i, w0.heap.size ≤ i → ¬ T i) : d.R e w' w0.heap.size ok v xs := Kd.R_mono (R_only (Kd.R_bound h) k (fun i hi => hd i hi.2.1)) (fun i hi => hi.1)
/-- What a reading by both leaves. -/
structure ReadTo (w w' : World) (S : Nat → Prop) (h : Value) (x : List Int × Bool) (S2 : Nat → Prop) (q : Nat) (y : List Int × Bool) : Prop where
  rd : Rd w' S h x.1 x.2
  rm : Rm w' S2 q y.1 y.2
  only : Only w w' (fun i => Pt h i ∨ i = q ∨ S i)
theorem ReadTo.mk_ {w w1 w2 : World} {S : Nat → Prop} {h : Value} {l l2 : List Int} {bad bad2 : Bool} {S2 : Nat → Prop} {q : Nat} (x : RdTo w w1 S h l bad) (y : RmTo w1 w2 S2 q l2 bad2) (a1 : ¬ S q) (a2 : ¬ Pt h q) : ReadTo w w2 S h (l, bad) S2 q (l2, bad2) :=
  ⟨x.rd.only y.only (fun i hi e => by subst e; exact a1 hi) (fun i hi e => by subst e; exact a2 hi), y.rm, (x.only.mono (fun i hi => .inl hi)).same (y.only.mono (fun i hi => .inr (.inl hi)))⟩
theorem ReadTo.below {w w1 w2 : World} {S : Nat → Prop} {h : Value} {x : List Int × Bool} {S2 : Nat → Prop} {q : Nat} {y : List Int × Bool} (r : ReadTo w w1 S h x S2 q y) (k : Below w1.heap.size w1 w2) : ReadTo w w2 S h x S2 q y := ⟨r.rd.below k, r.rm.below k, r.only.below_ k⟩
/-- Where both have the same left, both read the same. -/
def ReadOk (b : Bool) (l l2 : List Int) (bad bad2 : Bool) : Prop := l = l2 ∧ bad = bad2 → b = true
theorem ReadOk.same {b : Bool} {l : List Int} {bad : Bool} (h : ReadOk b l l bad bad) : b = true := h ⟨rfl, rfl⟩
def rdS (kind : Int) (l : List Int) (bad : Bool) : List Int × Bool :=
  if kind = 0 then (byteS l bad).2 else if kind = 2 then (flagS l bad).2 else if kind = 3 then (bytesS l bad).2 else if kind = 4 then (bytesS l bad).2 else if kind = 5 then (numsS l bad).2 else (numS l bad).2

/-! ### laminanum_Copy: function 10 -/
/-- What a copy with marks is: its block holds the bytes and the two marks. -/
theorem laminanum_Copy.calls (A0 : Option Addr) (c0 : Nat) (l0 : List Int) (w : World) (hr0 : Kd.C (Kd.int .u8) w A0 l0.length l0) (hn : l0.length ≤ 900000) :
    Calls Try.prog 10 #[.slice A0 l0.length c0] w fun e w' => ∃ (g cap : Nat), e = .returned (.slice (some ⟨g, 0, none⟩) l0.length cap) ∧ w.heap.size ≤ g ∧
      Kd.R (Kd.int .u8) 5 w' w.heap.size (fun _ => True) (.slice (some ⟨g, 0, none⟩) (l0 ++ [165, 90]).length cap) (l0 ++ [165, 90]) ∧ Below w.heap.size w w' := by
  have HR := Aside0.mk hr0
  clear hr0
  have hmk := fun W : World => make_bytes W (l0.length + 2) (by omega)
  simp only [Int.natCast_add, Int.cast_ofNat_Int] at hmk
  go_enter Try.func10, Try.ntmps10
  go_wp2_with (first | ((with_reducible refine gate_builtin (b := .append) (xs := #[.tmp 6, .tmp 7]) rfl ?_); at_builtin; refine Kd.R_append_rows (Kd.int .u8) (w0 := w) w.heap.size rfl (.tmp 6) (.tmp 7) 26 5 (.int .u8 0) 1 rfl Try.underlying26 info5 rfl (by decide) (by omega) _ [] l0 _ _ _ (fun _ => True) (fun _ => False) rfl rfl ?aO ?aR (fun _ _ h => h) (fun _ h => h.elim) (fun _ _ => trivial) ?aB ?aS ?aL ?_; (case aO => exact R_made w (l0.length + 2) (by omega)); (case aR => exact Kd.C_alloc HR.out _); (case aB => exact below_alloc (Below.refl _ _) _); (case aS => simp); (case aL => (simp; omega)); intro v1 w1 ho hb hg hat; clear hg hat; have HO := Aside0.mk ho; have HB := Aside0.mk hb; clear ho hb) | ((with_reducible refine gate_builtin (b := .append) (xs := #[.tmp 8, .tmp 9]) rfl ?_); at_builtin; refine Kd.R_append_rows (Kd.int .u8) (w0 := w) w.heap.size rfl (.tmp 8) (.tmp 9) 26 5 (.int .u8 0) 1 rfl Try.underlying26 info5 rfl (by decide) (by omega) _ ([] ++ l0) [165, 90] _ _ _ (fun _ => True) (fun _ => False) rfl rfl ?bO ?bR (fun _ _ h => h) (fun _ h => h.elim) (fun _ _ => trivial) ?bB ?bS ?bL ?_; (case bO => exact Kd.R_alloc HO.out _); (case bR => exact C_two w1 165 90); (case bB => exact below_alloc HB.out _); (case bS => (have := HB.out.size; simp; omega)); (case bL => (simp; omega)); intro v2 w2 ho hb hg hat; clear hg hat; have HB2 := Aside0.mk hb; clear hb; obtain ⟨g, cap, hv, hgb, hgl, -⟩ := Kd.R_form ho (by simp); subst hv; have HO2 := Aside0.mk ho; have hcap : l0.length ≤ cap := (by have := (Kd.R_reads' ho).2.1; simp at this; omega); clear ho))
  go_ret
  exact ⟨g, cap, rfl, hgb, by simpa using HO2.out, HB2.out⟩

/-! ### laminanum_Kept: function 12 -/
/-- The bytes are read out of a copy with marks. -/
theorem Kp_C {w : World} {base g cap : Nat} {ok : Nat → Prop} {l : List Int} (h : Kd.R (Kd.int .u8) 5 w base ok (.slice (some ⟨g, 0, none⟩) (l ++ [165, 90]).length cap) (l ++ [165, 90])) :
    Kd.C (Kd.int .u8) w (some ⟨g, 0, none⟩) l.length l ∧ l.length + 2 ≤ cap := by
  obtain ⟨h0, h1, h2⟩ := Kd.R_reads' h
  refine ⟨?_, by simpa using h1⟩
  have := Kd.C_take (m := l.length) h2 (by simp)
  simpa using this
theorem laminanum_Kept.calls (g cap base : Nat) (ok : Nat → Prop) (A1 : Option Addr) (c1 : Nat) (l : List Int) (w : World)
    (hR : Kd.R (Kd.int .u8) 5 w base ok (.slice (some ⟨g, 0, none⟩) (l ++ [165, 90]).length cap) (l ++ [165, 90])) (hr1 : Kd.C (Kd.int .u8) w A1 l.length l) (hn : l.length ≤ 900000) :
    Calls Try.prog 12 #[.slice (some ⟨g, 0, none⟩) l.length cap, .slice A1 l.length c1] w fun e w' => e = .returned (.bool true) ∧ Drawn0 w w' := by
  obtain ⟨hC, hcap⟩ := Kp_C hR
  have hcv3 := fun c => Kd.C_string (P := Try.prog) (A := some ⟨g, 0, none⟩) (c := c) Try.underlying26 Try.underlying5 Try.underlying9 hC
  have hcv4 := Kd.C_string (P := Try.prog) (A := A1) (c := c1) Try.underlying26 Try.underlying5 Try.underlying9 hr1
  have e0 := (Kd.R_celln (enc := Value.int .u8) (h1 := fun _ => rfl) 0 hR (l.length : Int) (by omega) (by first | (simp; done) | (simp; omega))).1
  have e1 := (Kd.R_celln (enc := Value.int .u8) (h1 := fun _ => rfl) 0 hR ((l.length : Int) + 1) (by omega) (by first | (simp; done) | (simp; omega))).1
  have f0 : rdOf 0 (l ++ [165, 90]) (l.length : Int) = 165 := by simp [rdOf]
  have f1 : rdOf 0 (l ++ [165, 90]) ((l.length : Int) + 1) = 90 := by
    have : ((l.length : Int) + 1).toNat = l.length + 1 := by omega
    simp [rdOf, this]
  rw [f0, Int.toNat_natCast] at e0
  rw [f1, show ((l.length : Int) + 1).toNat = l.length + 1 by omega] at e1
  clear f0 f1
  have HR := Aside0.mk hR
  have HC := Aside0.mk hC
  have HD := Aside0.mk hr1
  clear hR hC hr1
  go_enter Try.func12, Try.ntmps12
  go_wp2
  go_ret
  exact ⟨rfl, Drawn0.refl _⟩

/-! ### laminanum_Over: function 14 -/
theorem laminanum_Over.seg (S : Nat → Prop) (A : Option Addr) (c : Nat) (l : List Int) (w : World) (hr : Rb w S A l) (hn : Nf w A l) :
    Calls Try.prog 14 #[.slice A l.length c] w fun e w' => e = .returned (.tuple #[]) ∧ Seg w w' A l.length := by
  have hm := hr.row.2.1
  have HR := Aside0.mk hr
  have HN := Aside0.mk hn
  clear hr hn
  go_enter Try.func14, Try.ntmps14
  go_wp2
  go_loopw [2, 5] (fun _ v5 wr => ∃ k : Nat, k ≤ l.length ∧ v5 = .int .i64 k ∧ Aside0 (Seg w wr A l.length) ∧ Aside0 (∀ ad, A = some ad → ∀ j, k ≤ j → j < l.length → wr.cell? (ad.add j) = w.cell? (ad.add j))) (fun _ v5 _ => l.length - (intOf v5).toNat)
  case atStart => exact ⟨0, by omega, rfl, ⟨Seg.refl _ _ _⟩, ⟨fun _ _ _ _ _ => rfl⟩⟩
  case round =>
    obtain ⟨k, hk, rfl, HS, HC⟩ := hrel
    by_cases hlt : k < l.length
    · obtain ⟨ad, e, hx⟩ := C_cells HR.out.row (by omega)
      subst e
      obtain ⟨hs, cs, hb⟩ := HN.out (by omega) ad rfl
      obtain ⟨cs', hb'⟩ := HS.out.kind ad rfl cs _ hb
      have hc := (HC.out ad rfl k (Nat.le_refl _) hlt).trans (hx k hlt)
      have hf : wr.frozen? (ad.add k) = false := by rw [add_at ad hs]; exact frozen_of hb' _
      have HB := Aside0.mk hb
      have HB' := Aside0.mk hb'
      have HSP := Aside0.mk hs
      clear hb hb' hx hs
      go_wp2
      refine ⟨⟨k + 1, by omega, by go_num, ⟨HS.out.set HSP.out hlt HB.out _⟩, ⟨fun a ha j h1 h2 => ?_⟩⟩, by simp [intOf]; omega⟩
      cases ha
      rw [add_at ad HSP.out k, setCell_cell_ne HB'.out _ (by rw [← add_at ad HSP.out k]; intro h; have := add_inj ad HSP.out _ _ h; omega)]
      exact HC.out ad rfl j (by omega) h2
    · obtain rfl : k = l.length := by omega
      go_wp2
      go_end0
      exact ⟨rfl, HS.out⟩

/-! ### laminaref03_Reader_Take: function 50 -/
theorem laminaref03_Reader_Take.no (S : Nat → Prop) (q : Nat) (l : List Int) (bad : Bool) (n : Int) (w : World) (hr : Rm w S q l bad) (hn : tkS n l bad = none) :
    Calls Try.prog 50 #[.pointer (some ⟨q, 0, none⟩), .int .i64 n] w fun e w' => e = .returned (.slice none 0 0) ∧ RmTo w w' S q [] true := by
  have hc := tkS_none hn
  clear hn
  obtain ⟨A, c, x⟩ := hr
  have hb := x.str
  have h0 : w.cell? ⟨q, 0, none⟩ = some (.slice A l.length c) := by rw [cell_of hb]; rfl
  have h1 : w.cell? ⟨q, 1, none⟩ = some (.bool bad) := by rw [cell_of hb]; rfl
  have f0 := frozen_of hb 0
  have f1 := frozen_of hb 1
  have hm := x.row.row.2.1
  have hfin : RmTo w ((w.setCell ⟨q, 1, none⟩ (.bool true)).setCell ⟨q, 0, none⟩ (.slice none 0 0)) S q [] true := by
    have e1 := setCell_here hb 1 (.bool true)
    have e2 := setCell_here e1 0 (.slice none 0 0)
    refine ⟨⟨none, 0, e2, by simp, ⟨Kd.C_nil _ _, fun h => absurd h (by simp)⟩, x.ne, fun _ => rfl, by simp⟩, ?_⟩
    exact ((Only.refl w (fun i => i = q)).setCell (p := ⟨q, 1, none⟩) (.inl rfl) _).setCell (p := ⟨q, 0, none⟩) (.inl rfl) _
  have HF := Aside0.mk hfin
  clear hb x hfin
  rcases bad with _ | _
  · rcases hc with hc | hc
    · cases hc
    · by_cases hneg : n < 0
      · clear hc
        go_enter Try.func50, Try.ntmps50
        go_wp2
        go_ret
        exact ⟨rfl, HF.out⟩
      · have hgt : n > (l.length : Int) := by omega
        clear hc
        go_enter Try.func50, Try.ntmps50
        go_wp2
        go_ret
        exact ⟨rfl, HF.out⟩
  · clear hc
    go_enter Try.func50, Try.ntmps50
    go_wp2
    go_ret
    exact ⟨rfl, HF.out⟩
theorem laminaref03_Reader_Take.yes (S : Nat → Prop) (q : Nat) (l : List Int) (bad : Bool) (n : Int) (b r : List Int) (w : World) (hr : Rm w S q l bad) (hn : tkS n l bad = some (b, r)) (hl : l.length < 140737488355328) :
    Calls Try.prog 50 #[.pointer (some ⟨q, 0, none⟩), .int .i64 n] w fun e w' => ∃ v, e = .returned v ∧ Kd.R (Kd.int .u8) 5 w' w.heap.size (fun _ => True) v b ∧ RmTo w w' S q r false := by
  obtain ⟨rfl, hn0, hn1, rfl, rfl⟩ := tkS_some hn
  clear hn
  obtain ⟨m, rfl⟩ := Int.eq_ofNat_of_zero_le hn0
  rw [Int.toNat_natCast]
  have hm : m ≤ l.length := by omega
  obtain ⟨A, c, x⟩ := hr
  have hb := x.str
  have h0 : w.cell? ⟨q, 0, none⟩ = some (.slice A l.length c) := by rw [cell_of hb]; rfl
  have h1 : w.cell? ⟨q, 1, none⟩ = some (.bool false) := by rw [cell_of hb]; rfl
  have f0 := frozen_of hb 0
  have hmx := x.row.row.2.1
  have hlc := x.len
  have hqlt := blk_size hb
  have hlt' : (l.take m).length = m := by rw [List.length_take]; omega
  have hCT : Kd.C (Kd.int .u8) w A m (l.take m) := by have := Kd.C_take (m := m) x.row.row hm; rw [hlt'] at this; exact this
  have X := Aside0.mk x
  have HCT := Aside0.mk hCT
  clear hb x hCT hlt'
  have hn2 : ¬ ((m : Int) < 0) := by omega
  have hn3 : ¬ ((m : Int) > l.length) := by omega
  have hmc : m ≤ c := by omega
  by_cases hcm : c = m
  all_goals
    go_enter Try.func50, Try.ntmps50
    go_wp2_with (((with_reducible refine gate_builtin (b := .append) (xs := #[.tmp 29, .tmp 35]) rfl ?_); at_builtin; refine Kd.R_append_rows (Kd.int .u8) (w0 := w) w.heap.size rfl (.tmp 29) (.tmp 35) 26 5 (.int .u8 0) 1 rfl Try.underlying26 info5 rfl (by decide) (by omega) _ [] (l.take m) _ _ _ (fun _ => True) (fun _ => False) rfl rfl ?aO ?aR (fun _ _ h => h) (fun _ h => h.elim) (fun _ _ => trivial) ?aB ?aS ?aL ?_; (case aO => exact R_empty w w.heap.size (Nat.le_refl _)); (case aR => exact Kd.C_alloc HCT.out _); (case aB => exact below_alloc (Below.refl _ w) _); (case aS => simp); (case aL => (simp; omega)); intro v3 w3 ho hb hg hat; clear hg hat; obtain ⟨A3, c3, rfl, -⟩ := Kd.R_reads ho; have HO3 := Aside0.mk ho; have HB3 := Aside0.mk hb; have h03 := (hb.cell (p := ⟨q, 0, none⟩) hqlt).trans h0; have f03 := (hb.frozen (p := ⟨q, 0, none⟩) hqlt).trans f0; clear ho hb))
    go_ret
  · subst hcm
    have hfin := rm_cut (m := c) (A2 := A) X.out hm (by rw [if_pos rfl]) HB3.out
    rw [Nat.sub_self] at hfin
    refine ⟨.slice A3 c c3, rfl, ?_, hfin⟩
    have hty := HO3.out
    simp only [List.nil_append] at hty
    rw [show (l.take c).length = c by rw [List.length_take]; omega] at hty
    exact Kd.R_set hty ((HB3.out.block q hqlt).trans X.out.str) (by decide) 0 _
  · have hfin := rm_cut (m := m) X.out hm (by rw [if_neg hcm]) HB3.out
    refine ⟨.slice A3 m c3, rfl, ?_, hfin⟩
    have hty := HO3.out
    simp only [List.nil_append] at hty
    rw [show (l.take m).length = m by rw [List.length_take]; omega] at hty
    exact Kd.R_set hty ((HB3.out.block q hqlt).trans X.out.str) (by decide) 0 _

-- AUX topw
/-- A row of bytes as a number. -/
def topN : List Int → Int
  | [] => 0
  | x :: t => x + 256 * topN t
theorem topN_bd (b : List Int) (hb : ∀ x ∈ b, 0 ≤ x ∧ x < 256) : 0 ≤ topN b ∧ topN b < 256 ^ b.length := by
  induction b with
  | nil => simp [topN]
  | cons x t ih =>
    have h1 := hb x (by simp)
    have h2 := ih (fun y hy => hb y (by simp [hy]))
    simp only [topN, List.length_cons, Int.pow_succ]
    generalize (256 : Int) ^ t.length = P at *
    omega
theorem topN_small (b : List Int) (hb : ∀ x ∈ b, 0 ≤ x ∧ x < 256) (j : Nat) (hl : b.length ≤ 8) (hj : 0 < j) : topN (b.drop j) < 72057594037927936 := by
  have h := (topN_bd (b.drop j) (fun x hx => hb x (List.mem_of_mem_drop hx))).2
  have hp : (256 : Int) ^ (b.drop j).length ≤ 256 ^ 7 := by
    have := Nat.pow_le_pow_right (n := 256) (by decide) (show (b.drop j).length ≤ 7 by rw [List.length_drop]; omega)
    have h2 : ((256 ^ (b.drop j).length : Nat) : Int) ≤ ((256 ^ 7 : Nat) : Int) := Int.ofNat_le.2 this
    rw [Int.natCast_pow, Int.natCast_pow] at h2
    exact h2
  have : (256 : Int) ^ 7 = 72057594037927936 := by decide
  omega
theorem topN_step (b : List Int) (j : Nat) (hj : j < b.length) : topN (b.drop j) = 256 * topN (b.drop (j + 1)) + rd b j := by
  rw [List.drop_eq_getElem_cons hj]
  simp only [topN]
  have : rd b (j : Int) = b[j] := by simp [rd, hj]
  rw [this]
  omega
theorem topN_sum (b : List Int) : ∀ k j : Nat, sumN (b.drop j) k = topN ((b.drop j).take k) := by
  intro k
  induction k with
  | zero => intro j; simp [sumN, topN]
  | succ k ih =>
    intro j
    have hs : ∀ (l : List Int) (k : Nat), topN (l.take (k + 1)) = topN (l.take k) + rd l k * 2 ^ (8 * k) := by
      intro l
      induction l with
      | nil => intro k; simp [topN, rd]
      | cons x t iht =>
        intro k
        rcases k with _ | k
        · simp [topN, rd]
        · have := iht k
          simp only [List.take_succ_cons, topN] at this ⊢
          rw [this]
          have e : rd (x :: t) ((k + 1 : Nat) : Int) = rd t k := by simp [rd]
          have e2 : (2 : Int) ^ (8 * (k + 1)) = 256 * 2 ^ (8 * k) := by rw [show 8 * (k + 1) = 8 + 8 * k by omega, Int.pow_add]; rfl
          rw [e, e2, Int.mul_add]
          have : 256 * (rd t k * 2 ^ (8 * k)) = rd t k * (256 * 2 ^ (8 * k)) := by rw [← Int.mul_assoc, ← Int.mul_assoc, Int.mul_comm 256]
          omega
    simp only [sumN]
    rw [ih j, hs]
theorem unL_top (b : List Int) (hl : b.length = 8) : unL b = wrap64 (topN b) := by
  unfold unL
  have := topN_sum b 8 0
  rw [List.drop_zero, List.take_of_length_le (by omega)] at this
  rw [this]
theorem u64_in (x : Int) (h0 : 0 ≤ x) (h1 : x < 18446744073709551616) : IntKind.u64.wrap x = x := IntWalk.u64_in x (by omega)
theorem top_wraps (b : List Int) (hb : ∀ x ∈ b, 0 ≤ x ∧ x < 256) (j : Nat) (hl : b.length ≤ 8) (hj : j < b.length) : IntKind.u64.wrap (256 * topN (b.drop (j + 1))) = 256 * topN (b.drop (j + 1)) ∧ IntKind.u64.wrap (256 * topN (b.drop (j + 1)) + rd b j) = topN (b.drop j) := by
  have h := topN_small b hb (j + 1) hl (by omega)
  have h0 := (topN_bd (b.drop (j + 1)) (fun x hx => hb x (List.mem_of_mem_drop hx))).1
  have hr := rd_bd hb j hj
  refine ⟨u64_in _ (by omega) (by omega), ?_⟩
  rw [topN_step b j hj]
  exact u64_in _ (by omega) (by omega)

/-! ### laminaref03_Reader_Byte: function 37 -/
theorem laminaref03_Reader_Byte.calls (S : Nat → Prop) (q : Nat) (l : List Int) (bad : Bool) (w : World) (hr : Rm w S q l bad) (hl : l.length < 140737488355328) :
    Calls Try.prog 37 #[.pointer (some ⟨q, 0, none⟩)] w fun e w' => e = .returned (.int .u8 (byteS l bad).1) ∧ RmTo w w' S q (byteS l bad).2.1 (byteS l bad).2.2 := by
  rcases htk : tkS 1 l bad with _ | ⟨b, r⟩
  · have hb : byteS l bad = (0, [], true) := by unfold byteS; rw [htk]
    have HT := Aside0.mk (fun W (x : Rm W S q l bad) => laminaref03_Reader_Take.no S q l bad 1 W x htk)
    rw [hb]
    have HR := Aside0.mk hr
    clear htk hb hr
    go_enter Try.func37, Try.ntmps37
    go_wp2_with fail
    refine (HT.out _ HR.out).mono ?_
    rintro e w1 ⟨rfl, hx⟩
    go_wp2
    go_ret
    exact ⟨rfl, hx⟩
  · have hb : byteS l bad = (rd b 0, r, false) := by unfold byteS; rw [htk]
    have HT := Aside0.mk (fun W (x : Rm W S q l bad) => laminaref03_Reader_Take.yes S q l bad 1 b r W x htk hl)
    have hbl : b.length = 1 := by
      obtain ⟨_, q1, q2, rfl, rfl⟩ := tkS_some htk
      rw [List.length_take]; omega
    rw [hb]
    have HR := Aside0.mk hr
    have hb0 : 0 < b.length := by omega
    have hb1 : ((b.length : Int) == 0) = false := by rw [beq_eq_false_iff_ne]; omega
    have hb2 : ¬ b.length = 0 := by omega
    clear htk hb hr hbl
    go_enter Try.func37, Try.ntmps37
    go_wp2_with fail
    refine (HT.out _ HR.out).mono ?_
    rintro e w1 ⟨v, rfl, ho, hx⟩
    have HX := Aside0.mk hx
    obtain ⟨A1, c1, rfl, -⟩ := Kd.R_reads ho
    obtain ⟨ad, e, hc⟩ := C_cells (Kd.R_reads' ho).2.2 hb0
    subst e
    have hc0 : w1.cell? ad = some (.int .u8 (rd b 0)) := by have := hc 0 hb0; rw [add_zero_] at this; exact this
    clear hc hx ho
    go_wp2
    go_ret
    exact ⟨rfl, HX.out⟩

-- AUX rmbad
/-- It is made bad, by hand. -/
theorem rm_bad {w : World} {S : Nat → Prop} {q : Nat} {l : List Int} {bad : Bool} (x : Rm w S q l bad) : (∃ A c, w.cell? ⟨q, 0, none⟩ = some (.slice A l.length c)) ∧ w.cell? ⟨q, 1, none⟩ = some (.bool bad) ∧ w.frozen? ⟨q, 0, none⟩ = false ∧ w.frozen? ⟨q, 1, none⟩ = false ∧
    RmTo w ((w.setCell ⟨q, 1, none⟩ (.bool true)).setCell ⟨q, 0, none⟩ (.slice none 0 0)) S q [] true := by
  obtain ⟨A, c, x⟩ := x
  have hb := x.str
  refine ⟨⟨A, c, by rw [cell_of hb]; rfl⟩, by rw [cell_of hb]; rfl, frozen_of hb 0, frozen_of hb 1, ?_⟩
  have e1 := setCell_here hb 1 (.bool true)
  have e2 := setCell_here e1 0 (.slice none 0 0)
  refine ⟨⟨none, 0, e2, by simp, ⟨Kd.C_nil _ _, fun h => absurd h (by simp)⟩, x.ne, fun _ => rfl, by simp⟩, ?_⟩
  exact ((Only.refl w (fun i => i = q)).setCell (p := ⟨q, 1, none⟩) (.inl rfl) _).setCell (p := ⟨q, 0, none⟩) (.inl rfl) _
theorem byteS_len (l : List Int) (bad : Bool) : (byteS l bad).2.1.length ≤ l.length := by
  unfold byteS
  split
  · rename_i b r h
    obtain ⟨_, _, _, _, rfl⟩ := tkS_some h
    simp
  · simp

/-! ### wire_Reader_Left: function 19 -/
theorem wire_Reader_Left.calls (S : Nat → Prop) (h : Value) (l : List Int) (bad : Bool) (w : World) (hr : Rd w S h l bad) :
    Calls Try.prog 19 #[h] w fun e w' => e = .returned (.int .i64 l.length) ∧ w = w' := by
  rcases hr with ⟨rfl, rfl, rfl⟩ | ⟨p, A, c, rfl, x, y⟩
  · skip
    go_enter Try.func19, Try.ntmps19
    go_wp2
    go_ret
    exact ⟨rfl, rfl⟩
  · have h0 : w.cell? ⟨p, 0, none⟩ = some (.slice A l.length c) := by rw [cell_of x.str]; rfl
    have hm := x.row.row.2.1
    clear x y
    go_enter Try.func19, Try.ntmps19
    go_wp2
    go_ret
    exact ⟨rfl, rfl⟩

/-! ### laminanum_Same: function 16 -/
def laminanum_Same.f (l0 : List Int) (l1 : List Int) : Option (Bool) := some ((strOfNums l0).toList == (strOfNums l1).toList)
set_option maxHeartbeats 8000000 in
set_option maxRecDepth 100000 in
theorem laminanum_Same.calls (A0 : Option Addr) (c0 : Nat) (l0 : List Int) (A1 : Option Addr) (c1 : Nat) (l1 : List Int) (r : Bool) (w : World) (hr0 : Kd.C (Kd.int .u8) w A0 l0.length l0) (hc0 : l0.length ≤ c0) (hr1 : Kd.C (Kd.int .u8) w A1 l1.length l1) (hc1 : l1.length ≤ c1) (h : laminanum_Same.f l0 l1 = some r) :
    Calls Try.prog 16 #[.slice A0 l0.length c0, .slice A1 l1.length c1] w fun e w' => e = .returned (.bool r) ∧ Drawn0 w w' := by
  have HR0 := Aside0.mk hr0
  have HC0 := Aside0.mk hc0
  clear hr0 hc0
  have HR1 := Aside0.mk hr1
  have HC1 := Aside0.mk hc1
  clear hr1 hc1
  have H : (some ((strOfNums l0).toList == (strOfNums l1).toList)) = some r := h
  clear h
  obtain rfl := Option.some.inj H
  have hcv3 := Kd.C_string (P := Try.prog) (A := A0) (c := c0) Try.underlying26 Try.underlying5 Try.underlying9 HR0.out
  have hcv4 := Kd.C_string (P := Try.prog) (A := A1) (c := c1) Try.underlying26 Try.underlying5 Try.underlying9 HR1.out
  go_enter Try.func16, Try.ntmps16
  go_wp2
  go_ret
  exact ⟨by first | rfl | (simp; done) | (simp [*]; done), by repeat (first | exact Drawn0.refl _ | apply Drawn0.step)⟩

-- AUX same3
theorem same_refl (l : List Int) : laminanum_Same.f l l = some true := by simp [laminanum_Same.f]

/-! ### wire_Reader_Bytes: function 22 -/
/-- What reading bytes leaves: the row, whose cells may be written over. -/
structure BytesTo (w w' : World) (S : Nat → Prop) (h : Value) (A : Option Addr) (b r : List Int) (bad : Bool) : Prop where
  row : Rb w' S A b
  nf : Nf w' A b
  rdto : RdTo w w' S h r bad
  stab : RdX w' S h r bad A b.length
theorem wire_Reader_Bytes.calls (S : Nat → Prop) (h : Value) (l : List Int) (bad : Bool) (w : World) (hr : Rd w S h l bad) :
    Calls Try.prog 22 #[h] w fun e w' => ∃ A c, e = .returned (.slice A (bytesS l bad).1.length c) ∧ (bytesS l bad).1.length ≤ c ∧ BytesTo w w' S h A (bytesS l bad).1 (bytesS l bad).2.1 (bytesS l bad).2.2 := by
  have HN := Aside0.mk (fun W (q : Rd W S h l bad) => wire_Reader_Num.calls S h l bad W q)
  have hf : bytesS l bad = match tkS (numS l bad).1 (numS l bad).2.1 (numS l bad).2.2 with
    | some (b, r) => (b, r, false)
    | none => ([], [], true) := rfl
  have HR := Aside0.mk hr
  generalize numS l bad = y at *
  obtain ⟨n, r1, bd⟩ := y
  rw [hf]
  clear hf hr
  rcases htk : tkS n r1 bd with _ | ⟨b, r⟩
  · have HT := Aside0.mk (fun W (q : Rd W S h r1 bd) => wire_Reader_take.no S h r1 bd n W q htk)
    clear htk
    go_enter Try.func22, Try.ntmps22
    go_wp2_with fail
    refine (HN.out _ HR.out).mono ?_
    rintro e w1 ⟨rfl, hx⟩
    have HX := Aside0.mk hx
    clear hx
    go_wp2_with fail
    refine (HT.out _ HX.out.rd).mono ?_
    rintro e w2 ⟨rfl, hy⟩
    have HY := Aside0.mk hy
    clear hy
    go_wp2
    go_ret
    have hz := HX.out.then_ HY.out
    refine ⟨none, 0, rfl, by simp, ⟨Kd.C_nil _ _, fun h => absurd h (by simp)⟩, fun h => absurd h (by simp), hz, ?_⟩
    rcases hz.rd with q | ⟨p, A, c, hp, q1, q2⟩
    · exact .inl q
    · exact .inr ⟨p, A, c, hp, q1, q2, fun h => absurd h (by simp), fun ad a _ h => by cases h⟩
  · have HT := Aside0.mk (fun W (q : Rd W S h r1 bd) => take_yes S h r1 bd n b r W q htk)
    clear htk
    go_enter Try.func22, Try.ntmps22
    go_wp2_with fail
    refine (HN.out _ HR.out).mono ?_
    rintro e w1 ⟨rfl, hx⟩
    have HX := Aside0.mk hx
    clear hx
    go_wp2_with fail
    refine (HT.out _ HX.out.rd).mono ?_
    rintro e w2 ⟨A, rfl, hy⟩
    have HY := Aside0.mk hy
    clear hy
    go_wp2
    go_ret
    exact ⟨A, b.length, rfl, Nat.le_refl _, HY.out.row, HY.out.nf, HX.out.then_ HY.out.rdto, HY.out.stab⟩

/-! ### laminaref03_Reader_Flag: function 38 -/
theorem laminaref03_Reader_Flag.calls (S : Nat → Prop) (q : Nat) (l : List Int) (bad : Bool) (w : World) (hr : Rm w S q l bad) (hl : l.length < 140737488355328) :
    Calls Try.prog 38 #[.pointer (some ⟨q, 0, none⟩)] w fun e w' => e = .returned (.bool (flagS l bad).1) ∧ RmTo w w' S q (flagS l bad).2.1 (flagS l bad).2.2 := by
  have HB := Aside0.mk (fun W (x : Rm W S q l bad) => laminaref03_Reader_Byte.calls S q l bad W x hl)
  have hf : flagS l bad = if (byteS l bad).1 > 1 then (false, [], true) else (decide ((byteS l bad).1 = 1), (byteS l bad).2.1, (byteS l bad).2.2) := rfl
  have HR := Aside0.mk hr
  generalize byteS l bad = y at *
  obtain ⟨x, r, bd⟩ := y
  simp only at HB
  rw [hf]
  clear hf hr
  by_cases hg : x > 1
  · rw [if_pos hg]
    have h3 : (x == 1) = false := by rw [beq_eq_false_iff_ne]; omega
    go_enter Try.func38, Try.ntmps38
    go_wp2_with fail
    refine (HB.out _ HR.out).mono ?_
    rintro e w1 ⟨rfl, hx⟩
    have HX := Aside0.mk hx
    obtain ⟨⟨A, c, h0⟩, h1, f0, f1, hfin⟩ := rm_bad hx.rm
    have HF := Aside0.mk hfin
    clear hx hfin
    go_wp2
    go_ret
    exact ⟨rfl, HX.out.then_ HF.out⟩
  · rw [if_neg hg]
    by_cases h1 : x = 1
    · subst h1
      go_enter Try.func38, Try.ntmps38
      go_wp2_with fail
      refine (HB.out _ HR.out).mono ?_
      rintro e w1 ⟨rfl, hx⟩
      have HX := Aside0.mk hx
      clear hx
      go_wp2
      go_ret
      exact ⟨rfl, HX.out⟩
    · have h2 : decide (x = 1) = false := decide_eq_false h1
      have h3 : (x == 1) = false := by simpa using h1
      rw [h2]
      go_enter Try.func38, Try.ntmps38
      go_wp2_with fail
      refine (HB.out _ HR.out).mono ?_
      rintro e w1 ⟨rfl, hx⟩
      have HX := Aside0.mk hx
      clear hx
      go_wp2
      go_ret
      exact ⟨rfl, HX.out⟩

/-! ### laminaref03_Reader_Num: function 43 -/
theorem laminaref03_Reader_Num.calls (S : Nat → Prop) (q : Nat) (l : List Int) (bad : Bool) (w : World) (hr : Rm w S q l bad) (hl : l.length < 140737488355328) :
    Calls Try.prog 43 #[.pointer (some ⟨q, 0, none⟩)] w fun e w' => e = .returned (.int .i64 (numS l bad).1) ∧ RmTo w w' S q (numS l bad).2.1 (numS l bad).2.2 := by
  rcases htk : tkS 8 l bad with _ | ⟨b, r⟩
  · have hb : numS l bad = (0, [], true) := by unfold numS; rw [htk]
    have HT := Aside0.mk (fun W (x : Rm W S q l bad) => laminaref03_Reader_Take.no S q l bad 8 W x htk)
    rw [hb]
    have HR := Aside0.mk hr
    clear htk hb hr
    go_enter Try.func43, Try.ntmps43
    go_wp2_with fail
    refine (HT.out _ HR.out).mono ?_
    rintro e w1 ⟨rfl, hx⟩
    have HX := Aside0.mk hx
    clear hx
    go_wp2
    refine wp_loop_rounds 1 ?_
    rw [rounds_succ]
    go_wp2
    go_ret
    exact ⟨rfl, HX.out⟩
  · have hb : numS l bad = (unL b, r, false) := by unfold numS; rw [htk]
    have HT := Aside0.mk (fun W (x : Rm W S q l bad) => laminaref03_Reader_Take.yes S q l bad 8 b r W x htk hl)
    have hbb := hr.byt
    have hbl : b.length = 8 ∧ ∀ x ∈ b, 0 ≤ x ∧ x < 256 := by
      obtain ⟨_, q1, q2, rfl, rfl⟩ := tkS_some htk
      refine ⟨by rw [List.length_take]; omega, fun x hx => hbb x (List.mem_of_mem_take hx)⟩
    rw [hb, unL_top b hbl.1]
    have HBL := Aside0.mk hbl
    have HR := Aside0.mk hr
    have hb0 : b.length ≤ 8 := by omega
    have hb1 : 8 ≤ b.length := by omega
    clear htk hb hr hbl hbb
    go_enter Try.func43, Try.ntmps43
    go_wp2_with fail
    refine (HT.out _ HR.out).mono ?_
    rintro e w1 ⟨v, rfl, ho, hx⟩
    have HX := Aside0.mk hx
    obtain ⟨A1, c1, rfl, -⟩ := Kd.R_reads ho
    obtain ⟨ad, e, hc⟩ := C_cells (Kd.R_reads' ho).2.2 (by omega)
    subst e
    have HC := Aside0.mk hc
    clear hc hx ho
    go_wp2
    go_loop [4, 5] (fun v4 v5 => ∃ k : Nat, k ≤ b.length ∧ v5 = .int .i64 ((k : Int) - 1) ∧ v4 = .int .u64 (topN (b.drop k))) (fun _ v5 => (intOf v5 + 1).toNat)
    case atStart => exact ⟨b.length, by omega, rfl, by rw [List.drop_length]; rfl⟩
    case round =>
      obtain ⟨k, hk, rfl, rfl⟩ := hrel
      by_cases hlt : 0 < k
      · obtain ⟨j, rfl⟩ : ∃ j, k = j + 1 := ⟨k - 1, by omega⟩
        have hx := HC.out j (by omega)
        obtain ⟨q1, q2⟩ := top_wraps b HBL.out.2 j (by omega) (by omega)
        obtain ⟨r0, r1⟩ := rd_bd HBL.out.2 j (by omega)
        have q3 : ((j + 1 : Nat) : Int) - 1 = (j : Int) := by omega
        rw [q3]
        clear q3 hlt
        go_wp2
        exact ⟨⟨j, by omega, rfl, rfl⟩, by simp [intOf]⟩
      · obtain rfl : k = 0 := by omega
        go_wp2
        go_ret
        exact ⟨rfl, HX.out⟩

/-! ### laminaref03_Reader_Bytes: function 39 -/
theorem laminaref03_Reader_Bytes.calls (S : Nat → Prop) (q : Nat) (l : List Int) (bad : Bool) (w : World) (hr : Rm w S q l bad) (hl : l.length < 140737488355328) :
    Calls Try.prog 39 #[.pointer (some ⟨q, 0, none⟩)] w fun e w' => ∃ v, e = .returned v ∧ Kd.R (Kd.int .u8) 5 w' w.heap.size (fun _ => True) v (bytesS l bad).1 ∧ RmTo w w' S q (bytesS l bad).2.1 (bytesS l bad).2.2 := by
  have HN := Aside0.mk (fun W (x : Rm W S q l bad) => laminaref03_Reader_Num.calls S q l bad W x hl)
  have hf : bytesS l bad = match tkS (numS l bad).1 (numS l bad).2.1 (numS l bad).2.2 with
    | some (b, r) => (b, r, false)
    | none => ([], [], true) := rfl
  have HR := Aside0.mk hr
  have hle := numS_len l bad
  generalize numS l bad = y at *
  obtain ⟨n, r1, bd⟩ := y
  simp only at HN hle
  rw [hf]
  clear hf hr
  rcases htk : tkS n r1 bd with _ | ⟨b, r⟩
  · have HT := Aside0.mk (fun W (x : Rm W S q r1 bd) => laminaref03_Reader_Take.no S q r1 bd n W x htk)
    clear htk
    cases bd
    · skip
      go_enter Try.func39, Try.ntmps39
      go_wp2_with fail
      refine (HN.out _ HR.out).mono ?_
      rintro e w1 ⟨rfl, hx⟩
      have HX := Aside0.mk hx
      obtain ⟨-, h1, -, f1, -⟩ := rm_bad hx.rm
      clear hx
      go_wp2_with fail
      refine (HT.out _ HX.out.rm).mono ?_
      rintro e w2 ⟨rfl, hy⟩
      have HY := Aside0.mk hy
      clear hy
      go_wp2
      go_ret
      exact ⟨_, rfl, Kd.R_nil _ _ _ _ _, HX.out.then_ HY.out⟩
    · skip
      go_enter Try.func39, Try.ntmps39
      go_wp2_with fail
      refine (HN.out _ HR.out).mono ?_
      rintro e w1 ⟨rfl, hx⟩
      have HX := Aside0.mk hx
      obtain ⟨-, h1, -, f1, -⟩ := rm_bad hx.rm
      have hz : r1 = [] := by
        obtain ⟨A, c, x⟩ := hx.rm
        exact x.z rfl
      clear hx
      go_wp2
      go_ret
      subst hz
      exact ⟨_, rfl, Kd.R_nil _ _ _ _ _, HX.out⟩
  · have HT := Aside0.mk (fun W (x : Rm W S q r1 bd) => laminaref03_Reader_Take.yes S q r1 bd n b r W x htk (by omega))
    have hbd := (tkS_some htk).1
    subst hbd
    clear htk
    go_enter Try.func39, Try.ntmps39
    go_wp2_with fail
    refine (HN.out _ HR.out).mono ?_
    rintro e w1 ⟨rfl, hx⟩
    have HX := Aside0.mk hx
    obtain ⟨-, h1, -, f1, -⟩ := rm_bad hx.rm
    clear hx
    go_wp2_with fail
    refine (HT.out _ HX.out.rm).mono ?_
    rintro e w2 ⟨v, rfl, ho, hy⟩
    obtain ⟨A1, c1, rfl, -⟩ := Kd.R_reads ho
    have HO := Aside0.mk ho
    have HY := Aside0.mk hy
    clear hy ho
    go_wp2
    go_ret
    exact ⟨_, rfl, Kd.R_lower HO.out HX.out.only.size, HX.out.then_ HY.out⟩

/-! ### wire_Reader_Text: function 40 -/
theorem wire_Reader_Text.calls (S : Nat → Prop) (h : Value) (l : List Int) (bad : Bool) (w : World) (hr : Rd w S h l bad) :
    Calls Try.prog 40 #[h] w fun e w' => e = .returned (.string (strOfNums (bytesS l bad).1)) ∧ RdTo w w' S h (bytesS l bad).2.1 (bytesS l bad).2.2 := by
  have HR := Aside0.mk hr
  clear hr
  go_enter Try.func40, Try.ntmps40
  go_wp2_with fail
  refine (wire_Reader_Bytes.calls S h l bad _ HR.out).mono ?_
  rintro e w1 ⟨A, c, rfl, hc, hx⟩
  have HX := Aside0.mk hx.rdto
  have hcv := Kd.C_string (P := Try.prog) (A := A) (c := c) Try.underlying26 Try.underlying5 Try.underlying9 hx.row.row
  clear hx
  go_wp2
  go_ret
  exact ⟨rfl, HX.out⟩

/-! ### wire_Reader_Nums: function 41 -/
theorem wire_Reader_Nums.calls (S : Nat → Prop) (h : Value) (l : List Int) (bad : Bool) (w : World) (hr : Rd w S h l bad) (hS : ∀ i, S i → i < w.heap.size) (hl : l.length ≤ 140737488355328) :
    Calls Try.prog 41 #[h] w fun e w' => ∃ v, e = .returned v ∧ Kd.R (Kd.int .i64) 3 w' w.heap.size (fun _ => True) v (numsS l bad).1 ∧ RdTo w w' S h (numsS l bad).2.1 (numsS l bad).2.2 := by
  have HN := Aside0.mk (fun W (q : Rd W S h l bad) => wire_Reader_Num.calls S h l bad W q)
  have hf : numsS l bad = if (numS l bad).1 < 0 ∨ (numS l bad).1 > (numS l bad).2.1.length / 8 then ([], [], true) else numsR (numS l bad).1.toNat (numS l bad).2.1 (numS l bad).2.2 := rfl
  have hz : (numS l bad).1 < 0 ∨ (numS l bad).1 > (numS l bad).2.1.length / 8 → ∀ W, ¬ Rd W S (.pointer none) l bad := by
    intro hg W q
    rcases q with ⟨_, rfl, rfl⟩ | ⟨p, A, c, e, _⟩
    · exact absurd hg (by decide)
    · cases e
  have hle := numS_len l bad
  have hpl := hr.lt
  have HR := Aside0.mk hr
  have HZ := Aside0.mk hz
  have HPL := Aside0.mk hpl
  generalize numS l bad = y at *
  obtain ⟨n, l1, b1⟩ := y
  simp only at hf hle HN HZ
  rw [hf]
  clear hf hr hz hpl
  by_cases hg : n < 0 ∨ n > (l1.length : Int) / 8
  · rw [if_pos hg]
    have HG := Aside0.mk hg
    by_cases hneg : n < 0
    · clear hg
      go_enter Try.func41, Try.ntmps41
      go_wp2_with fail
      refine (HN.out _ HR.out).mono ?_
      rintro e w1 ⟨rfl, hx⟩
      have HX := Aside0.mk hx
      rcases hx.rd with ⟨hp, _⟩ | ⟨p, A, c, hp, q1, q2⟩
      · subst hp
        exact absurd HR.out (HZ.out HG.out _)
      · have Q := Aside0.mk q1
        subst hp
        clear hx q1 q2
        go_wp2_with fail
        refine (wire_Reader_fail.calls S p A c _ _ _ Q.out).mono ?_
        rintro e w2 ⟨rfl, hy⟩
        have HY := Aside0.mk (HX.out.then_ hy)
        clear hy
        go_wp2
        go_ret
        exact ⟨_, rfl, Kd.R_nil _ _ _ _ _, HY.out⟩
    · have hq : (l1.length : Int) / 8 < n := by omega
      have h0 : (0 : Int) ≤ l1.length := by omega
      clear hg
      go_enter Try.func41, Try.ntmps41
      go_wp2_with fail
      refine (HN.out _ HR.out).mono ?_
      rintro e w1 ⟨rfl, hx⟩
      have HX := Aside0.mk hx
      clear hx
      go_wp2_with fail
      refine (wire_Reader_Left.calls S h l1 b1 _ HX.out.rd).mono ?_
      rintro e w1' ⟨rfl, rfl⟩
      rcases HX.out.rd with ⟨hp, _⟩ | ⟨p, A, c, hp, q1, q2⟩
      · subst hp
        exact absurd HR.out (HZ.out HG.out _)
      · have Q := Aside0.mk q1
        subst hp
        clear q1 q2
        go_wp2_with fail
        refine (wire_Reader_fail.calls S p A c _ _ _ Q.out).mono ?_
        rintro e w2 ⟨rfl, hy⟩
        have HY := Aside0.mk (HX.out.then_ hy)
        clear hy
        go_wp2
        go_ret
        exact ⟨_, rfl, Kd.R_nil _ _ _ _ _, HY.out⟩
  · rw [if_neg hg]
    obtain ⟨N, rfl⟩ := Int.eq_ofNat_of_zero_le (show 0 ≤ n by omega)
    have hq : ¬ ((l1.length : Int) / 8 < (N : Int)) := by omega
    have hN : N ≤ 17592186044416 := by omega
    have hneg : ¬ ((N : Int) < 0) := by omega
    have h0 : (0 : Int) ≤ l1.length := by omega
    rw [Int.toNat_natCast]
    clear hg
    go_enter Try.func41, Try.ntmps41
    go_wp2_with fail
    refine (HN.out _ HR.out).mono ?_
    rintro e w1 ⟨rfl, hx⟩
    have HX := Aside0.mk hx
    clear hx
    go_wp2_with fail
    refine (wire_Reader_Left.calls S h l1 b1 _ HX.out.rd).mono ?_
    rintro e w1' ⟨rfl, rfl⟩
    go_wp2
    go_loopw [4, 21] (fun v4 v21 wr => ∃ k : Nat, k ≤ N ∧ v21 = .int .i64 k ∧ Aside0 (Kd.R (Kd.int .i64) 3 wr w.heap.size (fun _ => True) v4 (numsR k l1 b1).1) ∧ Aside0 ((numsR k l1 b1).1.length = k) ∧ Aside0 (RdTo w wr S h (numsR k l1 b1).2.1 (numsR k l1 b1).2.2)) (fun _ v21 _ => N - (intOf v21).toNat)
    case atStart => exact ⟨0, by omega, rfl, ⟨Kd.R_nil _ _ _ _ _⟩, ⟨rfl⟩, HX⟩
    case round =>
      obtain ⟨k, hk, rfl, HO, HL, HK⟩ := hrel
      obtain ⟨A4, c4, rfl, -⟩ := Kd.R_reads HO.out
      by_cases hlt : k < N
      · have hnx : numsR (k + 1) l1 b1 = ((numsR k l1 b1).1 ++ [(numS (numsR k l1 b1).2.1 (numsR k l1 b1).2.2).1], (numS (numsR k l1 b1).2.1 (numsR k l1 b1).2.2).2) := rfl
        have HNX := Aside0.mk hnx
        have HM := Aside0.mk (wire_Reader_Num.calls S h _ _ wr HK.out.rd)
        clear hnx
        generalize numsR k l1 b1 = y1 at *
        obtain ⟨ns, l2, b2⟩ := y1
        simp only at HO HL HK HNX HM
        generalize numS l2 b2 = y3 at *
        obtain ⟨x, l3, b3⟩ := y3
        simp only at HNX HM
        go_wp2_with fail
        refine HM.out.mono ?_
        rintro e w2 ⟨rfl, hy⟩
        have HY := Aside0.mk hy
        have HO2 := Aside0.mk (R_only (Kd.R_mono (Kd.R_bound HO.out) (fun i hi => (hi.2.1 : w.heap.size ≤ i))) hy.only (fun i hi hp => by have := HPL.out i hp; omega))
        have hsz2 : w.heap.size ≤ w2.heap.size := (HK.out.only.same hy.only).size
        clear hy
        go_wp2_with (((with_reducible refine gate_builtin (b := .append) (xs := #[.tmp 23, .tmp 26]) rfl ?_); at_builtin; go_must (refine Kd.R_append (Kd.int .i64) (w0 := _) w.heap.size rfl (.tmp 23) (.tmp 26) 29 3 (.int .i64 0) 8 rfl Try.underlying29 info3 rfl (by decide) (by omega) _ ns x [.int .i64 x] (fun i => w.heap.size ≤ i) (fun _ => False) rfl rfl rfl (fun _ h => h.elim) (fun i hi => by omega) (HO2.out) (Below.refl _ _) (hsz2) (by have := HL.out; omega) ?_; intro v3 w3 ho hb hg hat; clear hb hat; obtain ⟨A5, c5, rfl, -⟩ := Kd.R_reads ho; have HO3 := Aside0.mk ho; have HG3 := Aside0.mk hg; clear ho hg)))
        refine ⟨⟨k + 1, by omega, by go_num, ?_, ?_, ?_⟩, by simp [intOf]; omega⟩
        · rw [HNX.out]
          exact ⟨by simpa using Kd.R_mono HO3.out (fun _ _ => trivial)⟩
        · rw [HNX.out]
          exact ⟨by simp [HL.out]⟩
        · rw [HNX.out]
          have og : Only w2 w3 (fun i => w.heap.size ≤ i) := Only.of_grown HG3.out (fun i hi => HO2.out.1 i hi)
          exact ⟨⟨HY.out.rd.only og (fun i hi => by have := hS i hi; omega) (fun i hi => by have := HPL.out i hi; omega), (HK.out.only.same HY.out.only).then_ og (fun i hi => .inr hi)⟩⟩
      · obtain rfl : k = N := by omega
        go_wp2
        go_ret
        exact ⟨_, rfl, HO.out, HK.out⟩

end Go.Proofs.Ytibpbihcbgcedaa.Hp
