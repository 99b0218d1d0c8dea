/- Contracts of functions of the given program, and what they lean on: written by this session's own program, out of hand texts laid into the kit's printer. -/
import Derived.Test.YtdehifinipmmcaaHp0
import Derived.Deep.RegionWith
import Derived.Deep.DeepMust
import Derived.Deep.QuietTactic
import Derived.BigQuiet
namespace Go.Proofs.Ytdehifinipmmcaa.Hp
open Go.RowKit Go.Proofs.YtdehifinipmmcaaW.PrintWords Go.Proofs.YtdehifinipmmcaaW.PrintLast Go.Proofs.YtdehifinipmmcaaW.PrintMore
attribute [local go_sem] max2_int min2_int max_two min_two max_three min_three max_four min_four   -- for this text's walks alone
set_option linter.unusedVariables false
set_option linter.unusedSimpArgs false

-- AUX C
-- Words of this session for texts walked by hand: rows of bytes that are made with room, slices of slices.
theorem wf_i64 {n : Int} (h : (Lit.int .i64 n).wf = true) : -9223372036854775808 ≤ n ∧ n ≤ 9223372036854775807 := by
  simp [Lit.wf, IntKind.min, IntKind.max, IntKind.signed, IntKind.bits] at h
  omega
theorem wf_u32 {n : Int} (h : (Lit.int .u32 n).wf = true) : 0 ≤ n ∧ n < 4294967296 := by
  simp [Lit.wf, IntKind.min, IntKind.max, IntKind.signed, IntKind.bits] at h
  omega
theorem wf_u8 {n : Int} (h : (Lit.int .u8 n).wf = true) : 0 ≤ n ∧ n < 256 := by
  simp [Lit.wf, IntKind.min, IntKind.max, IntKind.signed, IntKind.bits] at h
  omega
theorem wfs_u8 {l : List Int} (h : ∀ n ∈ l, (Lit.int .u8 n).wf = true) : ∀ n ∈ l, 0 ≤ n ∧ n < 256 := fun n hn => wf_u8 (h n hn)
theorem const_bytes (w : World) (C : Array Value) (n c : Nat) : (convert 25 25 (.slice (some ⟨w.heap.size, 0, none⟩) n c)).run Try.prog (w.alloc (.cells C 5)) = .ok (.slice (some ⟨w.heap.size, 0, none⟩) n c) (w.alloc (.cells C 5 (C.size, C.size + 1))) := Lib.run_convert_bytes_const w _ _ C n c Try.underlying25 Try.underlying5
theorem const_bytes2 (w : World) (o : Obj) (C : Array Value) (n c : Nat) : (convert 25 25 (.slice (some ⟨w.heap.size + 1, 0, none⟩) n c)).run Try.prog ((w.alloc o).alloc (.cells C 5)) = .ok (.slice (some ⟨w.heap.size + 1, 0, none⟩) n c) ((w.alloc o).alloc (.cells C 5 (C.size, C.size + 1))) := by
  simpa using const_bytes (w.alloc o) C n c
/-- A block whose cells are read as a row of elements of one cell each. -/
theorem C_block {α : Type} (d : Kd α) (h1 : d.sz = 1) {w : World} {g : Nat} {cs : Array Value} {e : Nat} {fr : Nat × Nat} (hb : w.heap[g]? = some (.cells cs e fr)) (xs : List α) (hl : xs.length ≤ 9223372036854775807)
    (hK : ∀ (j : Nat) (x : α), xs[j]? = some x → ∃ v, cs[j]? = some v ∧ d.K w x [v]) : d.C w (some ⟨g, 0, none⟩) xs.length xs := by
  refine ⟨rfl, hl, fun _ => ⟨_, rfl, fun j p hj => ?_⟩⟩
  obtain ⟨v, hv, hk⟩ := hK j p hj
  refine ⟨[v], by rw [h1]; rfl, hk, fun i u hu => ?_⟩
  rcases i with _ | i
  · simp only [List.getElem?_cons_zero, Option.some.injEq] at hu
    subst hu
    rw [h1, Nat.mul_one, Nat.add_zero, add_plain]
    simp [World.cell?, hb, hv]
  · simp at hu
/-- An element of a row of rows of bytes. -/
theorem C_elem {k : IntKind} {e n : Nat} {w : World} {A : Option Addr} {ls : List (List Int)} (h : Kd.C (Kd.slice e (Kd.int k)) w A n ls) (i : Nat) (hi : i < ls.length) :
    ∃ (ad : Addr) (A' : Option Addr) (c' : Nat), A = some ad ∧ w.cell? (ad.add i) = some (.slice A' (ls[i]).length c') ∧ (ls[i]).length ≤ c' ∧ Kd.C (Kd.int k) w A' (ls[i]).length ls[i] := by
  have hn := h.1
  obtain ⟨ad, cs, e, hl, hk, hc⟩ := ReadsRow.get_ h [] (i : Int) (by omega) (by omega)
  obtain ⟨A', c', rfl, hl', hC⟩ := hk
  have := hc 0 _ rfl
  simp only [Int.toNat_natCast, Kd.slice, Nat.mul_one, Nat.add_zero] at this
  have eq : ls.getD ((i : Int).toNat) [] = ls[i] := by simp [hi]
  simp only [Int.toNat_natCast] at eq hl' hC
  rw [eq] at this hl' hC
  exact ⟨ad, A', c', e, this, hl', hC⟩
theorem make_bytes (W : World) (n : Nat) (hn : n ≤ 1000000) : (Instr.makeSlice 25 (.int .i64 0) (.int .i64 (n : Int))).run Try.prog W = .ok (.slice (some ⟨W.heap.size, 0, none⟩) 0 n) (W.alloc (.cells (madeCells #[.int .u8 0] n) 5)) := by
  obtain ⟨i0, hi, hzz⟩ := Option.map_eq_some_iff.1 info5
  simp only [Prod.mk.injEq] at hzz
  obtain ⟨hz0, hz1, hz2⟩ := hzz
  have h := run_make (P := Try.prog) W 25 5 i0 (.int .u8 0) Try.underlying25 hi hz0 .i64 .i64 0 n (by omega) (by omega) (by rw [hz2]; omega) (by omega)
  rw [hz1, show (Value.int .u8 0).cells = #[.int .u8 0] from rfl] at h
  simpa using h
theorem R_made (W : World) (n : Nat) (hn : n ≤ 1000000) : Kd.R (Kd.int .u8) 5 (W.alloc (.cells (madeCells #[.int .u8 0] n) 5)) W.heap.size (fun _ => True) (.slice (some ⟨W.heap.size, 0, none⟩) 0 n) [] :=
  Kd.R_of_own (enc := Value.int .u8) (h1 := fun _ => rfl) (World.ownsRow_made W _ n (Nat.le_refl _) (by unfold maxLen; omega) (by simp [size_madeCells])) (fun _ _ => trivial)
/-- 'T{}', of no elements. -/
theorem R_empty (W : World) (base : Nat) (h : base ≤ W.heap.size) : Kd.R (Kd.int .u8) 5 (W.alloc (.cells #[] 5)) base (fun _ => True) (.slice (some ⟨W.heap.size, 0, none⟩) 0 0) [] :=
  Kd.R_of_own (enc := Value.int .u8) (h1 := fun _ => rfl) (World.ownsRow_made W _ 0 h (by unfold maxLen; omega) (by simp)) (fun _ _ => trivial)
theorem R_lower' {α : Type} {d : Kd α} {e : Nat} {w : World} {base base' : Nat} {ok : Nat → Prop} {v : Value} {xs : List α} (h : d.R e w base ok v xs) (hb : base' ≤ base) : d.R e w base' ok v xs := Kd.R_lower h hb
theorem C_two (W : World) (x y : Int) : Kd.C (Kd.int .u8) (W.alloc (.cells #[.int .u8 x, .int .u8 y] 5)) (some ⟨W.heap.size, 0, none⟩) 2 [x, y] :=
  C_block (Kd.int .u8) rfl (heap_alloc_new W _) [x, y] (by simp) (fun j z hj => by
    rcases j with _ | _ | j
    · simp at hj; subst hj; exact ⟨_, rfl, rfl⟩
    · simp at hj; subst hj; exact ⟨_, rfl, rfl⟩
    · simp at hj)
theorem C_lit (W : World) (xs : List Int) (hl : xs.length ≤ 9223372036854775807) (fr : Nat × Nat) : Kd.C (Kd.int .u8) (W.alloc (.cells ((xs.map (Value.int .u8)).toArray) 5 fr)) (some ⟨W.heap.size, 0, none⟩) xs.length xs :=
  C_block (Kd.int .u8) rfl (heap_alloc_new W _) xs hl (fun j z hj => ⟨.int .u8 z, by simp [hj], rfl⟩)
/-- Rows of bytes side by side: the arguments of a call with several parts. -/
theorem C_row1 {W : World} {A1 : Option Addr} {n1 c1 : Nat} {l1 : List Int} (h1 : Kd.C (Kd.int .u8) W A1 n1 l1) (k1 : n1 ≤ c1) :
    Kd.C (Kd.slice 5 (Kd.int .u8)) (W.alloc (.cells #[.slice A1 n1 c1] 25)) (some ⟨W.heap.size, 0, none⟩) 1 [l1] := by
  have e1 := h1.1
  subst e1
  exact C_block (Kd.slice 5 (Kd.int .u8)) rfl (heap_alloc_new W _) [l1] (by simp) (fun j z hj => by
    rcases j with _ | j
    · simp at hj; subst hj; exact ⟨_, rfl, A1, c1, rfl, k1, Kd.C_alloc h1 _⟩
    · simp at hj)
theorem C_row2 {W : World} {A1 A2 : Option Addr} {n1 n2 c1 c2 : Nat} {l1 l2 : List Int} (h1 : Kd.C (Kd.int .u8) W A1 n1 l1) (k1 : n1 ≤ c1) (h2 : Kd.C (Kd.int .u8) W A2 n2 l2) (k2 : n2 ≤ c2) :
    Kd.C (Kd.slice 5 (Kd.int .u8)) (W.alloc (.cells #[.slice A1 n1 c1, .slice A2 n2 c2] 25)) (some ⟨W.heap.size, 0, none⟩) 2 [l1, l2] := by
  have e1 := h1.1
  have e2 := h2.1
  subst e1
  subst e2
  exact C_block (Kd.slice 5 (Kd.int .u8)) rfl (heap_alloc_new W _) [l1, l2] (by simp) (fun j z hj => by
    rcases j with _ | _ | j
    · simp at hj; subst hj; exact ⟨_, rfl, A1, c1, rfl, k1, Kd.C_alloc h1 _⟩
    · simp at hj; subst hj; exact ⟨_, rfl, A2, c2, rfl, k2, Kd.C_alloc h2 _⟩
    · simp at hj)

-- AUX M
-- Words of this session: what a call may change (a set of blocks), and what stays.
/-- Only the blocks of S have changed; blocks were added. -/
structure Only (w w' : World) (S : Nat → Prop) : Prop where
  os : w'.os = w.os
  tape : w'.tape = w.tape
  output : w'.output = w.output
  size : w.heap.size ≤ w'.heap.size
  block : ∀ i, i < w.heap.size → ¬ S i → w'.heap[i]? = w.heap[i]?
/-- A set of blocks, and those that were added. -/
def Grow (S : Nat → Prop) (w w' : World) : Nat → Prop := fun i => S i ∨ (w.heap.size ≤ i ∧ i < w'.heap.size)
theorem Only.refl (w : World) (S : Nat → Prop) : Only w w S := ⟨rfl, rfl, rfl, Nat.le_refl _, fun _ _ _ => rfl⟩
theorem Only.mono {w w' : World} {S T : Nat → Prop} (h : Only w w' S) (hS : ∀ i, S i → T i) : Only w w' T := ⟨h.os, h.tape, h.output, h.size, fun i hi hn => h.block i hi (fun hs => hn (hS i hs))⟩
theorem Only.then_ {w w1 w2 : World} {S T : Nat → Prop} (h : Only w w1 S) (k : Only w1 w2 T) (hT : ∀ i, T i → S i ∨ w.heap.size ≤ i) : Only w w2 S :=
  ⟨k.os.trans h.os, k.tape.trans h.tape, k.output.trans h.output, Nat.le_trans h.size k.size, fun i hi hn => (k.block i (Nat.lt_of_lt_of_le hi h.size) (fun ht => (hT i ht).elim hn (fun hge => by omega))).trans (h.block i hi hn)⟩
theorem Only.trans {w w1 w2 : World} {S : Nat → Prop} (h : Only w w1 S) (k : Only w1 w2 (Grow S w w1)) : Only w w2 S := h.then_ k (fun _ hi => hi.imp id (fun h => h.1))
theorem Only.same {w w1 w2 : World} {S : Nat → Prop} (h : Only w w1 S) (k : Only w1 w2 S) : Only w w2 S := h.then_ k (fun _ hi => .inl hi)
theorem Only.of_below {w w' : World} (h : Below w.heap.size w w') (S : Nat → Prop) : Only w w' S := ⟨h.os, h.tape, h.output, h.size, fun i hi _ => h.block i hi⟩
theorem Only.below_ {w w1 w2 : World} {S : Nat → Prop} (h : Only w w1 S) (k : Below w1.heap.size w1 w2) : Only w w2 S := h.then_ (Only.of_below k (fun _ => False)) (fun _ hf => hf.elim)
theorem Only.below {w w' : World} {S : Nat → Prop} {B : Nat} (h : Only w w' S) (hS : ∀ i, S i → B ≤ i) (hB : B ≤ w.heap.size) : Below B w w' := ⟨h.os, h.tape, h.output, h.size, fun i hi => h.block i (by omega) (fun hs => by have := hS i hs; omega)⟩
theorem Only.of_grown {w w' : World} {row : Option Nat} {S : Nat → Prop} (hg : w.grownBy w' row) (hS : ∀ k, row = some k → S k) : Only w w' S := ⟨hg.os, hg.tape, hg.output, hg.size, fun i hi hn => hg.block i hi (fun h => hn (hS i h.symm))⟩
theorem Only.setCell {w w' : World} {S : Nat → Prop} (h : Only w w' S) {p : Addr} (hp : S p.block ∨ w.heap.size ≤ p.block) (u : Value) : Only w (w'.setCell p u) S :=
  ⟨h.os, h.tape, h.output, by have := h.size; simp only [World.setCell, Array.size_modify]; exact this, fun i hi hn => (Below.heap_setCell w' p u i (fun e => by subst e; exact hp.elim hn (fun hge => by omega))).trans (h.block i hi hn)⟩
theorem Only.alloc {w w' : World} {S : Nat → Prop} (h : Only w w' S) (o : Obj) : Only w (w'.alloc o) S := h.below_ (below_alloc (Below.refl _ _) o)
theorem Only.drewN {w w' : World} {S : Nat → Prop} (h : Only w w' S) (n : Nat) : Only w (w'.drewN n) S := h.below_ (pw_below_drewN (Below.refl _ _) n)
theorem Only.drew {w w' : World} {S : Nat → Prop} (h : Only w w' S) : Only w w'.drew S := h.below_ (below_drew (Below.refl _ _))
theorem Only.same_block {w w' : World} {S : Nat → Prop} (h : Only w w' S) {i : Nat} {o : Obj} (hb : w.heap[i]? = some o) (hn : ¬ S i) : w'.heap[i]? = some o := by
  have hi : i < w.heap.size := by
    rcases Nat.lt_or_ge i w.heap.size with h | h
    · exact h
    · rw [Array.getElem?_eq_none h] at hb; cases hb
  exact (h.block i hi hn).trans hb
theorem blk_size {w : World} {i : Nat} {o : Obj} (hb : w.heap[i]? = some o) : i < w.heap.size := by
  rcases Nat.lt_or_ge i w.heap.size with h | h
  · exact h
  · rw [Array.getElem?_eq_none h] at hb; cases hb
theorem Grow.old {S : Nat → Prop} {w w' : World} {i : Nat} (h : S i) : Grow S w w' i := .inl h
theorem Grow.trans {S : Nat → Prop} {w w1 w2 : World} (h1 : w.heap.size ≤ w1.heap.size) (h2 : w1.heap.size ≤ w2.heap.size) : ∀ i, Grow (Grow S w w1) w1 w2 i → Grow S w w2 i := by
  rintro i ((h | h) | h)
  · exact .inl h
  · exact .inr ⟨h.1, by omega⟩
  · exact .inr ⟨by omega, h.2⟩
theorem setCell_here {w : World} {p : Nat} {cs : Array Value} {t : Nat} {fr : Nat × Nat} (hb : w.heap[p]? = some (.cells cs t fr)) (j : Nat) (u : Value) : (w.setCell ⟨p, j, none⟩ u).heap[p]? = some (.cells (cs.setIfInBounds j u) t fr) := by
  simp [World.setCell, Array.getElem?_modify, hb]
theorem cell_of {w : World} {p : Nat} {cs : Array Value} {t : Nat} {fr : Nat × Nat} (hb : w.heap[p]? = some (.cells cs t fr)) (j : Nat) : w.cell? ⟨p, j, none⟩ = cs[j]? := by simp [World.cell?, hb]
theorem frozen_of {w : World} {p : Nat} {cs : Array Value} {t : Nat} (hb : w.heap[p]? = some (.cells cs t (0, 0))) (j : Nat) : w.frozen? ⟨p, j, none⟩ = false := by simp [World.frozen?, hb]
/-- A row of numbers that is read, in blocks of S. -/
structure Rk (k : IntKind) (w : World) (S : Nat → Prop) (A : Option Addr) (l : List Int) : Prop where
  row : Kd.C (Kd.int k) w A l.length l
  blk : 0 < l.length → ∀ a, A = some a → S a.block
abbrev Rb := Rk .u8
theorem C_cells {k : IntKind} {w : World} {A : Option Addr} {l : List Int} (h : Kd.C (Kd.int k) w A l.length l) (hl : 0 < l.length) : ∃ ad, A = some ad ∧ ∀ j, j < l.length → w.cell? (ad.add j) = some (.int k (rd l j)) := by
  obtain ⟨ad, e, _⟩ := Kd.at_int h 0 (by omega) (by omega)
  subst e
  exact ⟨ad, rfl, fun j hj => by have := Kd.foot_int h (j : Int) (by omega) (by omega); simpa using this⟩
theorem C_mk {k : IntKind} {w : World} {A : Option Addr} {l : List Int} (hm : l.length ≤ 9223372036854775807) (h : 0 < l.length → ∃ ad, A = some ad ∧ ∀ j, j < l.length → w.cell? (ad.add j) = some (.int k (rd l j))) : Kd.C (Kd.int k) w A l.length l := by
  refine ⟨rfl, hm, fun hp => ?_⟩
  obtain ⟨ad, e, hc⟩ := h hp
  refine ⟨ad, e, fun j p hj => ?_⟩
  have hlt : j < l.length := by
    rcases Nat.lt_or_ge j l.length with h | h
    · exact h
    · rw [List.getElem?_eq_none h] at hj; cases hj
  refine ⟨[.int k p], rfl, rfl, fun i u hu => ?_⟩
  rcases i with _ | i
  · simp only [List.getElem?_cons_zero, Option.some.injEq] at hu
    subst hu
    have := hc j hlt
    have e2 : rd l (j : Int) = p := by simp [rd, hj]
    rw [e2] at this
    simpa [Kd.int, Kd.scalar] using this
  · simp at hu
/-- What is read of cells stays where the cells stay. -/
theorem C_cells_mono {k : IntKind} {w w' : World} {A : Option Addr} {l : List Int} (h : Kd.C (Kd.int k) w A l.length l) (hc : ∀ ad j, A = some ad → j < l.length → w'.cell? (ad.add j) = w.cell? (ad.add j)) : Kd.C (Kd.int k) w' A l.length l :=
  C_mk h.2.1 (fun hp => by
    obtain ⟨ad, e, hx⟩ := C_cells h hp
    exact ⟨ad, e, fun j hj => (hc ad j e hj).trans (hx j hj)⟩)
theorem cell_same {w w' : World} {b : Nat} (h : w'.heap[b]? = w.heap[b]?) (a : Addr) (ha : a.block = b) : w'.cell? a = w.cell? a := by
  simp [World.cell?, ha, h]
theorem add_blk (a : Addr) (j : Nat) : (a.add j).block = a.block := add_block a j
theorem Rk.mono {k : IntKind} {w : World} {S T : Nat → Prop} {A : Option Addr} {l : List Int} (h : Rk k w S A l) (hS : ∀ i, S i → T i) : Rk k w T A l := ⟨h.row, fun hp a ha => hS _ (h.blk hp a ha)⟩
theorem Rk.lt {k : IntKind} {w : World} {S : Nat → Prop} {A : Option Addr} {l : List Int} (h : Rk k w S A l) (hl : 0 < l.length) : ∀ a, A = some a → a.block < w.heap.size := by
  intro a ha
  obtain ⟨ad, e, hx⟩ := C_cells h.row hl
  rw [ha] at e
  cases e
  have := World.block_lt_of_cell? w _ (hx 0 hl)
  rwa [add_blk] at this
theorem Rk.only {k : IntKind} {w w' : World} {S T : Nat → Prop} {A : Option Addr} {l : List Int} (h : Rk k w S A l) (o : Only w w' T) (hd : ∀ i, S i → ¬ T i) : Rk k w' S A l :=
  ⟨C_cells_mono h.row (fun ad j e hj => cell_same (o.block _ (h.lt (by omega) ad e) (hd _ (h.blk (by omega) ad e))) _ (add_blk ad j)), h.blk⟩
theorem Rk.below {k : IntKind} {w w' : World} {S : Nat → Prop} {A : Option Addr} {l : List Int} (h : Rk k w S A l) (o : Below w.heap.size w w') : Rk k w' S A l := h.only (Only.of_below o (fun _ => False)) (fun _ _ h => h)
theorem Rk.old {k : IntKind} {w0 w : World} {A : Option Addr} {l : List Int} (h : Rk k w0 (fun i => i < w0.heap.size) A l) (o : Below w0.heap.size w0 w) : Rk k w (fun i => i < w0.heap.size) A l :=
  ⟨Kd.C_below h.row o, h.blk⟩
theorem Rk.of_C {k : IntKind} {w : World} {A : Option Addr} {l : List Int} (h : Kd.C (Kd.int k) w A l.length l) : Rk k w (fun i => i < w.heap.size) A l :=
  ⟨h, fun hp a ha => by
    obtain ⟨ad, e, hx⟩ := C_cells h hp
    rw [ha] at e
    cases e
    have := World.block_lt_of_cell? w _ (hx 0 hp)
    rwa [add_blk] at this⟩
/-- An own row: its block is the row's. -/
theorem Rk.of_R {w : World} {B n c : Nat} {ok : Nat → Prop} {A : Option Addr} {l : List Int} (h : Kd.R (Kd.int .u8) 5 w B ok (.slice A n c) l) : Rb w ok A l :=
  ⟨(Kd.R_reads' h).2.2, fun _ a ha => h.1 a.block (by subst ha; rfl)⟩
theorem R_only {α : Type} {d : Kd α} {e : Nat} {w w' : World} {base : Nat} {ok T : Nat → Prop} {v : Value} {xs : List α} (h : d.R e w base ok v xs) (k : Only w w' T) (hd : ∀ i, ok i → ¬ T i) : d.R e w' base ok v xs := Kd.R_step h (fun i ho hi => k.block i hi (hd i ho))
theorem R_made_in {α : Type} {d : Kd α} {e : Nat} {w w' : World} {ok : Nat → Prop} {v : Value} {xs : List α} (h : d.R e w' w.heap.size ok v xs) : d.R e w' w.heap.size (fun i => w.heap.size ≤ i ∧ i < w'.heap.size) v xs := Kd.R_mono (Kd.R_bound h) (fun _ hk => ⟨hk.2.1, hk.2.2.1⟩)
theorem add_zero_ (a : Addr) : a.add 0 = a := by
  obtain ⟨b, o, s⟩ := a
  unfold Addr.add
  split <;> simp_all
/-- append(v, x), x of several cells, as an equation of the run: for regions that draw their order. -/
theorem R_append_run {α : Type} (d : Kd α) {P : Program} {w0 W : World} (base : Nat) (t e ty : TypeId) (z : Value) (bytes : Nat)
    (ht : P.underlying t = some (.slice e)) (hinfo : (P.info? e).map (fun i => (i.zero, i.size, i.bytes)) = some (some z, d.sz, bytes)) (hz : z.cells.size = d.sz) (hs0 : 0 < d.sz) (hb0 : 0 < bytes)
    (v : Value) (xs : List α) (p : α) (cs : List Value) (ok okp : Nat → Prop) (hp : d.M W base okp p cs) (hokp : ∀ k, okp k → ok k ∧ some k ≠ v.ownBlock) (hfresh : ∀ k, W.heap.size ≤ k → ok k)
    (HO : d.R e W base ok v xs) (HB : Below base w0 W) (hbase : base ≤ W.heap.size) (hl : (xs.length + 1) * bytes ≤ 140737488355328) :
    ∃ v1 w1, (Builtin.append_ #[t, t] ty #[v, .slice (some ⟨W.heap.size, 0, none⟩) 1 1]).run P (W.alloc (.cells cs.toArray e)) = .ok v1 w1 ∧ d.R e w1 base ok v1 (xs ++ [p]) ∧ Below base w0 w1 ∧ W.grownBy w1 v.ownBlock ∧ (v1.ownBlock = v.ownBlock ∨ ∃ b, v1.ownBlock = some b ∧ W.heap.size ≤ b) := by
  obtain ⟨h0, inner, hown, hr⟩ := HO
  obtain ⟨i0, hi, hzz⟩ := Option.map_eq_some_iff.1 hinfo
  simp only [Prod.mk.injEq] at hzz
  obtain ⟨hz0, hz1, hz2⟩ := hzz
  have hlen : xs.length + 1 ≤ 140737488355328 := Nat.le_trans (Nat.le_mul_of_pos_right _ hb0) hl
  have hcl : cs.length = d.sz := d.K_len (d.K_of_M hp)
  obtain ⟨v1, w1, hrun, hown1, hg, -, hat⟩ := run_append_own_at (P := P) (W.alloc (.cells cs.toArray e)) base t ty e i0 z d.sz bytes ht hi hz0 hz1 hz2 hz hs0 v xs.length inner (hown.alloc _) ⟨W.heap.size, 0, none⟩ 1 1 cs (by rw [hcl]; simp)
    (by simpa using World.news_of_block (cs := cs.toArray) (t := e) (fr := (0, 0)) (heap_alloc_new W (.cells cs.toArray e))) (d.K_one (d.K_of_M hp)) (by simp only [maxLen]; omega) hl (by simp; omega)
  have hg2 := World.grownBy.trans (World.grownBy_alloc W (.cells cs.toArray e) _) hg
  have hat2 : v1.ownBlock = v.ownBlock ∨ ∃ b, v1.ownBlock = some b ∧ W.heap.size ≤ b := hat.imp id (fun h => ⟨_, h, by simp⟩)
  exact ⟨v1, w1, hrun, Kd.R_appended h0 hr hp hokp hfresh hown1 hg2 hat2, (HB.alloc hbase _).grown hg (by simp; omega) (own_base hown), hg2, hat2⟩
theorem S_append_run {α : Type} (d : Kd α) {P : Program} {w0 W : World} (base : Nat) (t e ty : TypeId) (z : Value) (bytes : Nat)
    (ht : P.underlying t = some (.slice e)) (hinfo : (P.info? e).map (fun i => (i.zero, i.size, i.bytes)) = some (some z, d.sz, bytes)) (hz : z.cells.size = d.sz) (hs0 : 0 < d.sz) (hb0 : 0 < bytes)
    (v : Value) (xs : List α) (p : α) (cs : List Value) (ok okp : Nat → Prop) (hp : d.M W base okp p cs) (hokp : ∀ k, okp k → ok k ∧ some k ≠ v.ownBlock) (hfresh : ∀ k, W.heap.size ≤ k → ok k)
    (HO : Kd.S d e W base (fun k => ok k ∧ ¬ okp k) v xs) (HB : Below base w0 W) (hbase : base ≤ W.heap.size) (hl : (xs.length + 1) * bytes ≤ 140737488355328) :
    ∃ v1 w1, (Builtin.append_ #[t, t] ty #[v, .slice (some ⟨W.heap.size, 0, none⟩) 1 1]).run P (W.alloc (.cells cs.toArray e)) = .ok v1 w1 ∧ Kd.S d e w1 base ok v1 (xs ++ [p]) ∧ Below base w0 w1 ∧ W.grownBy w1 v.ownBlock ∧ (v1.ownBlock = v.ownBlock ∨ ∃ b, v1.ownBlock = some b ∧ W.heap.size ≤ b) := by
  obtain ⟨f, hf, hR⟩ := Kd.S_tag HO xs.length okp (fun _ hk h2 => h2.2 hk)
  obtain ⟨v1, w1, hrun, hr, h⟩ := R_append_run (Kd.tag f d) (w0 := w0) base t e ty z bytes ht hinfo hz hs0 hb0 v xs.zipIdx (p, xs.length) cs ok okp (d.M_mono (fun k hk => ⟨hk, hf k hk⟩) hp) hokp hfresh (Kd.R_mono hR (fun _ hk => hk.1)) HB hbase (by rw [List.length_zipIdx]; exact hl)
  rw [← Kd.zip_snoc] at hr
  exact ⟨v1, w1, hrun, ⟨f, hr⟩, h⟩

/-! ### diff_resized: function 31 -/
def szL (l0 : List Int) (n : Nat) : List Int := l0.take (min l0.length n) ++ (List.replicate n 0).drop (min l0.length n)
theorem szL_len (l0 : List Int) (n : Nat) : (szL l0 n).length = n := by simp [szL]; omega
theorem diff_resized.calls (A0 : Option Addr) (c0 : Nat) (l0 : List Int) (n : Nat) (w : World) (hr0 : Kd.C (Kd.int .u8) w A0 l0.length l0) (hc0 : l0.length ≤ c0) (hn : n ≤ 1000000) :
    Calls Try.prog 31 #[.slice A0 l0.length c0, .int .i64 (n : Int)] w fun e w' => ∃ v0_ : Value, e = .returned v0_ ∧ Kd.R (Kd.int .u8) 5 w' w.heap.size (fun _ => True) v0_ (szL l0 n) ∧ Below w.heap.size w w' := by
  have hsz : (Try.prog.info? 5).map (·.size) = some 1 := by
    obtain ⟨i, hi, hz⟩ := Option.map_eq_some_iff.1 info5
    simp only [Prod.mk.injEq] at hz
    rw [hi, Option.map_some, hz.2.1]
  have HR := Aside0.mk hr0
  clear hr0
  go_enter Try.func31, Try.ntmps31
  go_wp2_with (first | ((with_reducible refine gate_dst (N := 7) rfl ?_); (try (refine gate_guard (by rfl) ?_; dsimp only)); refine Kd.R_make (Kd.int .u8) (w0 := w) w.heap.size 5 rfl (N := 7) rfl 25 _ _ rfl (n : Int) rfl rfl Try.underlying25 (.int .u8 0) 1 info5 rfl (by decide) (by omega) 0 (ok := fun _ => True) (okp := fun _ => True) rfl (fun _ hk => hk) trivial (by omega) (by omega) (Below.refl _ _) (Nat.le_refl _) ?_; intro v2 w2 ho hb hg hnew; clear hg hnew; rw [Int.toNat_natCast] at ho; have HO := Aside0.mk ho; have HB := Aside0.mk hb; clear ho hb) | ((with_reducible refine gate_builtin (b := .copy) (xs := #[.tmp 8, .tmp 9]) rfl ?_); refine Kd.R_copy (enc := Value.int .u8) (h1 := fun _ => rfl) 0 (w0 := w) w.heap.size rfl (.tmp 8) (.tmp 9) 25 25 5 rfl Try.underlying25 hsz v2 (List.replicate n 0) l0 A0 l0.length c0 (fun _ => True) rfl rfl HO.out (Kd.C_below HR.out HB.out) HB.out HB.out.size ?_; intro w3 ho hb hg; clear hg; rw [List.length_replicate] at ho; have HO3 := Aside0.mk ho; have HB3 := Aside0.mk hb; clear ho hb))
  go_wp2
  go_ret
  exact ⟨_, rfl, HO3.out, HB3.out⟩

/-! ### diff_sized: function 42 -/
def diff_sized.f (a0 : Int) : Option (Bool) := if a0 ≥ 0 then (some (decide (a0 ≤ 4096))) else (some false)
set_option maxHeartbeats 8000000 in
set_option maxRecDepth 100000 in
theorem diff_sized.calls (a0 : Int) (r : Bool) (w : World) (h : diff_sized.f a0 = some r) :
    Calls Try.prog 42 #[.int .i64 a0] w fun e w' => e = .returned (.bool r) ∧ Drawn0 w w' := by
  have H : (if a0 ≥ 0 then (some (decide (a0 ≤ 4096))) else (some false)) = some r := h
  clear h
  by_cases c2 : a0 ≥ 0
  · rw [if_pos c2] at H
    have c2b0 : decide (0 ≤ a0) = true := decide_eq_true c2
    clear c2
    obtain rfl := Option.some.inj H
    go_enter Try.func42, Try.ntmps42
    go_wp2
    go_ret
    exact ⟨by first | rfl | (simp; done) | (simp [*]; done), by repeat (first | exact Drawn0.refl _ | apply Drawn0.step)⟩
  · rw [if_neg c2] at H
    have c2b0 : decide (0 ≤ a0) = false := decide_eq_false c2
    clear c2
    obtain rfl := Option.some.inj H
    go_enter Try.func42, Try.ntmps42
    go_wp2
    go_ret
    exact ⟨by first | rfl | (simp; done) | (simp [*]; done), by repeat (first | exact Drawn0.refl _ | apply Drawn0.step)⟩

/-! ### slices_Equal_byte_byte: function 51 -/
def slices_Equal_byte_byte.l0 : Nat → List Int → List Int → Int → Int → Option (Bool)
  | 0, _, _, _, _ => none
  | k + 1, x0, x1, x12, x13 => if x13 < x12 then (if 0 ≤ x13 then (if x13 < (x0.length : Int) then (if x13 < (x1.length : Int) then (if (rd x0 x13) = (rd x1 x13) then (slices_Equal_byte_byte.l0 k x0 x1 x12 (wrap64 (x13 + 1))) else (some false)) else (none)) else (none)) else (none)) else (some true)
def slices_Equal_byte_byte.f (k : Nat) (l0 : List Int) (l1 : List Int) : Option (Bool) := if (l0.length : Int) = (l1.length : Int) then (slices_Equal_byte_byte.l0 k l0 l1 (l0.length : Int) 0) else (some false)
theorem slices_Equal_byte_byte.mono_l : ∀ k, (∀ y0 y1 y2 y3, LeO (slices_Equal_byte_byte.l0 k y0 y1 y2 y3) (slices_Equal_byte_byte.l0 (k + 1) y0 y1 y2 y3))
  | 0 => fun _ _ _ _ r h => by simp [slices_Equal_byte_byte.l0] at h
  | k + 1 => by
    have ih0 := slices_Equal_byte_byte.mono_l k
    · intro y0 y1 y2 y3
      unfold slices_Equal_byte_byte.l0
      repeat' first
      | (with_reducible exact ih0 _ _ _ _)
      | (with_reducible exact LeO.refl _)
      | (with_reducible exact LeO.none _)
      | (with_reducible refine LeO.ite ?_ ?_)
      | (with_reducible refine LeO.bind ?_ (fun _ => ?_))
      | exact ih0 _ _ _ _
      | exact LeO.none _
      | refine LeO.ite ?_ ?_
      | refine LeO.bind ?_ (fun _ => ?_)
theorem slices_Equal_byte_byte.mono : ∀ a0 a1 k, LeO (slices_Equal_byte_byte.f k a0 a1) (slices_Equal_byte_byte.f (k + 1) a0 a1) := by
  intro a0 a1 k
  have ih0 := slices_Equal_byte_byte.mono_l k
  unfold slices_Equal_byte_byte.f
  repeat' first
      | (with_reducible exact ih0 _ _ _ _)
      | (with_reducible exact LeO.refl _)
      | (with_reducible exact LeO.none _)
      | (with_reducible refine LeO.ite ?_ ?_)
      | (with_reducible refine LeO.bind ?_ (fun _ => ?_))
      | exact ih0 _ _ _ _
      | exact LeO.none _
      | refine LeO.ite ?_ ?_
      | refine LeO.bind ?_ (fun _ => ?_)
set_option maxHeartbeats 8000000 in
set_option maxRecDepth 100000 in
theorem slices_Equal_byte_byte.calls (k : Nat) (A0 : Option Addr) (c0 : Nat) (l0 : List Int) (A1 : Option Addr) (c1 : Nat) (l1 : List Int) (r : Bool) (w : World) (hr0 : Kd.C (Kd.int .u8) w A0 l0.length l0) (hc0 : l0.length ≤ c0) (hr1 : Kd.C (Kd.int .u8) w A1 l1.length l1) (hc1 : l1.length ≤ c1) (h : slices_Equal_byte_byte.f k l0 l1 = some r) :
    Calls Try.prog 51 #[.slice A0 l0.length c0, .slice A1 l1.length c1] w fun e w' => e = .returned (.bool r) ∧ Drawn0 w w' := by
  have HR0 := Aside0.mk hr0
  have HC0 := Aside0.mk hc0
  clear hr0 hc0
  have HR1 := Aside0.mk hr1
  have HC1 := Aside0.mk hc1
  clear hr1 hc1
  have H : (if (l0.length : Int) = (l1.length : Int) then (slices_Equal_byte_byte.l0 k l0 l1 (l0.length : Int) 0) else (some false)) = some r := h
  clear h
  by_cases c3 : (l0.length : Int) = (l1.length : Int)
  · rw [if_pos c3] at H
    have c3b0 : ((l0.length : Int) == (l1.length : Int)) = true := beq_iff_eq.mpr c3
    have c3b1 : ((l0.length : Int) != (l1.length : Int)) = false := bne_eq_false_iff_eq.mpr c3
    have c3b2 : (l0.length == l1.length) = true := by first | simpa using c3 | (simp at c3 ⊢; omega)
    clear c3
    have H' := Aside0.mk H
    clear H
    go_enter Try.func51, Try.ntmps51
    go_wp2
    repeat (go_quiet (fail); try go_wp2)
    go_loopg [13] k (fun kq v13 w' => ∃ (x13_1 : Int), v13 = .int .i64 x13_1 ∧ Aside0 (slices_Equal_byte_byte.l0 kq l0 l1 (l0.length : Int) x13_1 = some r) ∧ Aside0 (kq ≤ k) ∧ Drawn0 w w')
    case atStart => exact ⟨(0), (by first | rfl | (simp; done) | (simp [*]; done)), H', ⟨Nat.le_refl _⟩, by repeat (first | exact Drawn0.refl _ | apply Drawn0.step)⟩
    case round =>
      clear H'
      try clear c1
      try clear p2
      try clear c3
      try clear c3b0
      try clear c3b1
      try clear c3b2
      obtain ⟨x13_1, rfl, HA, HK1, ⟨m1, rfl⟩⟩ := hrel
      cases gk with
      | zero => exact absurd HA.out (by simp [slices_Equal_byte_byte.l0])
      | succ k1 =>
        have H := HA.out
        clear HA
        simp only [slices_Equal_byte_byte.l0] at H
        by_cases c4 : x13_1 < (l0.length : Int)
        · rw [if_pos c4] at H
          have c4b0 : decide (x13_1 < (l0.length : Int)) = true := decide_eq_true c4
          clear c4
          by_cases c5 : 0 ≤ x13_1
          · rw [if_pos c5] at H
            have c5b0 : decide (0 ≤ x13_1) = true := decide_eq_true c5
            clear c5
            by_cases c6 : x13_1 < (l0.length : Int)
            · rw [if_pos c6] at H
              have c6b0 : decide (x13_1 < (l0.length : Int)) = true := decide_eq_true c6
              clear c6
              by_cases c7 : x13_1 < (l1.length : Int)
              · rw [if_pos c7] at H
                have c7b0 : decide (x13_1 < (l1.length : Int)) = true := decide_eq_true c7
                clear c7
                by_cases c8 : (rd l0 x13_1) = (rd l1 x13_1)
                · rw [if_pos c8] at H
                  have c8b0 : ((rd l0 x13_1) == (rd l1 x13_1)) = true := beq_iff_eq.mpr c8
                  have c8b1 : ((rd l0 x13_1) != (rd l1 x13_1)) = false := bne_eq_false_iff_eq.mpr c8
                  clear c8
                  have H' := Aside0.mk H
                  clear H
                  have p101 : 0 ≤ (x13_1 : Int) := of_decide_eq_true (by first | (with_reducible assumption) | assumption)
                  have q101 : x13_1 < (l0.length : Int) := of_decide_eq_true (by first | (with_reducible assumption) | assumption)
                  obtain ⟨ad101, e101, hx101_0⟩ := Kd.at_int HR0.out x13_1 p101 q101
                  cases e101
                  replace p101 := eq_true p101
                  replace q101 := eq_true q101
                  have p102 : 0 ≤ (x13_1 : Int) := of_decide_eq_true (by first | (with_reducible assumption) | assumption)
                  have q102 : x13_1 < (l1.length : Int) := of_decide_eq_true (by first | (with_reducible assumption) | assumption)
                  obtain ⟨ad102, e102, hx102_0⟩ := Kd.at_int HR1.out x13_1 p102 q102
                  cases e102
                  replace p102 := eq_true p102
                  replace q102 := eq_true q102
                  go_wp2
                  repeat (go_quiet (fail); try go_wp2)
                  go_roundg k1
                  case measure => have := HK1.out; omega
                  case rel => exact ⟨(wrap64 (x13_1 + 1)), (by first | rfl | (simp; done) | (simp [*]; done)), H', ⟨by have := HK1.out; omega⟩, by repeat (first | exact Drawn0.refl _ | apply Drawn0.step)⟩
                · rw [if_neg c8] at H
                  have c8b0 : ((rd l0 x13_1) == (rd l1 x13_1)) = false := beq_eq_false_iff_ne.mpr c8
                  have c8b1 : ((rd l0 x13_1) != (rd l1 x13_1)) = true := bne_iff_ne.mpr c8
                  obtain rfl := Option.some.inj H
                  have p101 : 0 ≤ (x13_1 : Int) := of_decide_eq_true (by first | (with_reducible assumption) | assumption)
                  have q101 : x13_1 < (l0.length : Int) := of_decide_eq_true (by first | (with_reducible assumption) | assumption)
                  obtain ⟨ad101, e101, hx101_0⟩ := Kd.at_int HR0.out x13_1 p101 q101
                  cases e101
                  replace p101 := eq_true p101
                  replace q101 := eq_true q101
                  have p102 : 0 ≤ (x13_1 : Int) := of_decide_eq_true (by first | (with_reducible assumption) | assumption)
                  have q102 : x13_1 < (l1.length : Int) := of_decide_eq_true (by first | (with_reducible assumption) | assumption)
                  obtain ⟨ad102, e102, hx102_0⟩ := Kd.at_int HR1.out x13_1 p102 q102
                  cases e102
                  replace p102 := eq_true p102
                  replace q102 := eq_true q102
                  go_wp2
                  repeat (go_quiet (fail); try go_wp2)
                  go_ret
                  exact ⟨by first | rfl | (simp; done) | (simp [*]; done), by repeat (first | exact Drawn0.refl _ | apply Drawn0.step)⟩
              · rw [if_neg c7] at H
                exact absurd H (by simp)
            · rw [if_neg c6] at H
              exact absurd H (by simp)
          · rw [if_neg c5] at H
            exact absurd H (by simp)
        · rw [if_neg c4] at H
          have c4b0 : decide (x13_1 < (l0.length : Int)) = false := decide_eq_false c4
          clear c4
          obtain rfl := Option.some.inj H
          go_wp2
          repeat (go_quiet (fail); try go_wp2)
          go_ret
          exact ⟨by first | rfl | (simp; done) | (simp [*]; done), by repeat (first | exact Drawn0.refl _ | apply Drawn0.step)⟩
  · rw [if_neg c3] at H
    have c3b0 : ((l0.length : Int) == (l1.length : Int)) = false := beq_eq_false_iff_ne.mpr c3
    have c3b1 : ((l0.length : Int) != (l1.length : Int)) = true := bne_iff_ne.mpr c3
    have c3b2 : (l0.length == l1.length) = false := by first | simpa using c3 | (simp at c3 ⊢; omega)
    obtain rfl := Option.some.inj H
    go_enter Try.func51, Try.ntmps51
    go_wp2
    repeat (go_quiet (fail); try go_wp2)
    go_ret
    exact ⟨by first | rfl | (simp; done) | (simp [*]; done), by repeat (first | exact Drawn0.refl _ | apply Drawn0.step)⟩

/-! ### stripe_sound: function 67 -/
def stripe_sound.f (a0 : Int) (a1 : Int) : Option (Bool) := if a0 ≥ 0 then (if a0 ≤ 4096 then (if a1 ≥ 16 then (if a1 ≤ 256 then (some ((Go.bits .and .i64 a1 (wrap64 (a1 - 1))) == 0)) else (some false)) else (some false)) else (some false)) else (some false)
set_option maxHeartbeats 8000000 in
set_option maxRecDepth 100000 in
theorem stripe_sound.calls (a0 : Int) (a1 : Int) (r : Bool) (w : World) (h : stripe_sound.f a0 a1 = some r) :
    Calls Try.prog 67 #[.int .i64 a0, .int .i64 a1] w fun e w' => e = .returned (.bool r) ∧ Drawn0 w w' := by
  have H : (if a0 ≥ 0 then (if a0 ≤ 4096 then (if a1 ≥ 16 then (if a1 ≤ 256 then (some ((Go.bits .and .i64 a1 (wrap64 (a1 - 1))) == 0)) else (some false)) else (some false)) else (some false)) else (some false)) = some r := h
  clear h
  by_cases c3 : a0 ≥ 0
  · rw [if_pos c3] at H
    have c3b0 : decide (0 ≤ a0) = true := decide_eq_true c3
    clear c3
    by_cases c4 : a0 ≤ 4096
    · rw [if_pos c4] at H
      have c4b0 : decide (a0 ≤ 4096) = true := decide_eq_true c4
      clear c4
      by_cases c5 : a1 ≥ 16
      · rw [if_pos c5] at H
        have c5b0 : decide (16 ≤ a1) = true := decide_eq_true c5
        clear c5
        by_cases c6 : a1 ≤ 256
        · rw [if_pos c6] at H
          have c6b0 : decide (a1 ≤ 256) = true := decide_eq_true c6
          clear c6
          obtain rfl := Option.some.inj H
          go_enter Try.func67, Try.ntmps67
          go_wp2
          go_ret
          exact ⟨by first | rfl | (simp; done) | (simp [*]; done), by repeat (first | exact Drawn0.refl _ | apply Drawn0.step)⟩
        · rw [if_neg c6] at H
          have c6b0 : decide (a1 ≤ 256) = false := decide_eq_false c6
          clear c6
          obtain rfl := Option.some.inj H
          go_enter Try.func67, Try.ntmps67
          go_wp2
          go_ret
          exact ⟨by first | rfl | (simp; done) | (simp [*]; done), by repeat (first | exact Drawn0.refl _ | apply Drawn0.step)⟩
      · rw [if_neg c5] at H
        have c5b0 : decide (16 ≤ a1) = false := decide_eq_false c5
        clear c5
        obtain rfl := Option.some.inj H
        go_enter Try.func67, Try.ntmps67
        go_wp2
        go_ret
        exact ⟨by first | rfl | (simp; done) | (simp [*]; done), by repeat (first | exact Drawn0.refl _ | apply Drawn0.step)⟩
    · rw [if_neg c4] at H
      have c4b0 : decide (a0 ≤ 4096) = false := decide_eq_false c4
      clear c4
      obtain rfl := Option.some.inj H
      go_enter Try.func67, Try.ntmps67
      go_wp2
      go_ret
      exact ⟨by first | rfl | (simp; done) | (simp [*]; done), by repeat (first | exact Drawn0.refl _ | apply Drawn0.step)⟩
  · rw [if_neg c3] at H
    have c3b0 : decide (0 ≤ a0) = false := decide_eq_false c3
    clear c3
    obtain rfl := Option.some.inj H
    go_enter Try.func67, Try.ntmps67
    go_wp2
    go_ret
    exact ⟨by first | rfl | (simp; done) | (simp [*]; done), by repeat (first | exact Drawn0.refl _ | apply Drawn0.step)⟩

/-! ### stripe_Pieces: function 58 -/
def szB (n o : Int) : Bool := decide (0 ≤ n ∧ n ≤ 4096 ∧ (o = 16 ∨ o = 32 ∨ o = 64 ∨ o = 128 ∨ o = 256))
theorem pow_two : ∀ m : Fin 257, 16 ≤ m.val → ((Go.bits .and .i64 (m.val : Int) (wrap64 ((m.val : Int) - 1)) == 0) = decide (m.val = 16 ∨ m.val = 32 ∨ m.val = 64 ∨ m.val = 128 ∨ m.val = 256)) := by decide +kernel
theorem sound_f (n o : Int) : stripe_sound.f n o = some (szB n o) := by
  unfold stripe_sound.f szB
  by_cases h1 : n ≥ 0
  · by_cases h2 : n ≤ 4096
    · by_cases h3 : o ≥ 16
      · by_cases h4 : o ≤ 256
        · obtain ⟨m, rfl⟩ := Int.eq_ofNat_of_zero_le (show 0 ≤ o by omega)
          have := pow_two ⟨m, by omega⟩ (by simp; omega)
          simp only at this
          rw [if_pos h1, if_pos h2, if_pos h3, if_pos h4, this]
          congr 1
          rw [decide_eq_decide]
          omega
        · rw [if_pos h1, if_pos h2, if_pos h3, if_neg h4]; congr 1; symm; rw [decide_eq_false_iff_not]; omega
      · rw [if_pos h1, if_pos h2, if_neg h3]; congr 1; symm; rw [decide_eq_false_iff_not]; omega
    · rw [if_pos h1, if_neg h2]; congr 1; symm; rw [decide_eq_false_iff_not]; omega
  · rw [if_neg h1]; congr 1; symm; rw [decide_eq_false_iff_not]; omega
def pcAt (n o i : Nat) : S94 := ⟨i, 0, (min o (n - i * o) : Nat), (i * o : Nat)⟩
def pcN (n o : Nat) : Nat := (n + o - 1) / o
def pcL (n o : Nat) : List S94 := (List.range (pcN n o)).map (pcAt n o)
theorem pcL_len (n o : Nat) : (pcL n o).length = pcN n o := by simp [pcL]
theorem pcL_at (n o k : Nat) (h : k < pcN n o) : rd_T94 (pcL n o) k = pcAt n o k := by simp [rd_T94, pcL, h]
theorem pcN_lt (n o k : Nat) (ho : o = 16 ∨ o = 32 ∨ o = 64 ∨ o = 128 ∨ o = 256) (h : k < pcN n o) : k * o < n := by
  unfold pcN at h
  rcases ho with rfl | rfl | rfl | rfl | rfl <;> omega
theorem pcN_le (n o : Nat) (hn : n ≤ 4096) (ho : o = 16 ∨ o = 32 ∨ o = 64 ∨ o = 128 ∨ o = 256) : pcN n o ≤ 256 := by
  unfold pcN
  rcases ho with rfl | rfl | rfl | rfl | rfl <;> omega
theorem pcL_take (n o i : Nat) (h : i < pcN n o) : (pcL n o).take (i + 1) = (pcL n o).take i ++ [pcAt n o i] := by
  rw [List.take_succ_eq_append_getElem (by rw [pcL_len]; exact h)]
  simp [pcL]
set_option maxHeartbeats 4000000 in
set_option maxRecDepth 100000 in
theorem stripe_Pieces.bad (n o : Int) (hn : -9223372036854775808 ≤ n ∧ n ≤ 9223372036854775807) (h : szB n o = false) (w : World) :
    Calls Try.prog 58 #[.int .i64 n, .int .i64 o, .int .i64 0, .int .i64 n] w fun e w' => e = .returned (.tuple #[.slice none 0 0, errW (some 1)]) ∧ Drawn0 w w' := by
  have hu27 := Try.underlying30
  have hu33 := Try.underlying39
  have HS := fun W => stripe_sound.calls n o false W (by rw [sound_f, h])
  clear h
  go_enter Try.func58, Try.ntmps58
  go_wp2_with fail
  refine (HS _).mono ?_
  rintro e w1 ⟨rfl, ⟨n2, rfl⟩⟩
  go_wp2
  go_ret2
  exact ⟨by simp [errW_some], ⟨_, rfl⟩⟩
set_option maxHeartbeats 8000000 in
set_option maxRecDepth 100000 in
theorem stripe_Pieces.good (n o : Nat) (hn : n ≤ 4096) (ho : o = 16 ∨ o = 32 ∨ o = 64 ∨ o = 128 ∨ o = 256) (w : World) :
    Calls Try.prog 58 #[.int .i64 (n : Int), .int .i64 (o : Int), .int .i64 0, .int .i64 (n : Int)] w fun e w' => ∃ v : Value, e = .returned (.tuple #[v, errW none]) ∧ Kd.R k94 94 w' w.heap.size (fun _ => True) v (pcL n o) ∧ Below w.heap.size w w' := by
  have HS := fun W => stripe_sound.calls n o true W (by rw [sound_f]; congr 1; unfold szB; rw [decide_eq_true_eq]; omega)
  have q0 : IntKind.i64.wrap ((n : Int) - n) = 0 := by rw [IntWalk.i64_in _ (by omega)]; omega
  have hN := pcN_le n o hn ho
  have HO0 := Aside0.mk ho
  have ho1 : ¬ (o : Int) = 0 := by omega
  have ho2 : o ≤ 256 := by omega
  clear ho
  go_enter Try.func58, Try.ntmps58
  go_wp2_with fail
  refine (HS _).mono ?_
  rintro e w1 ⟨rfl, ⟨n2, rfl⟩⟩
  go_wp2
  clear q0 HS
  go_loopw [10, 11] (fun v10 v11 wr => ∃ i : Nat, i ≤ pcN n o ∧ v11 = .int .i64 (min (i * o) n : Nat) ∧ Aside0 (Kd.R k94 94 wr w.heap.size (fun _ => True) v10 ((pcL n o).take i)) ∧ Aside0 (Below w.heap.size w wr)) (fun _ v11 _ => n - (intOf v11).toNat)
  case atStart => exact ⟨0, by omega, by simp, ⟨Kd.R_nil _ _ _ _ _⟩, ⟨pw_below_drewN (Below.refl _ _) _⟩⟩
  case round =>
    obtain ⟨i, hi, rfl, HO, HB⟩ := hrel
    by_cases hlt : i < pcN n o
    · have h1 := pcN_lt n o i HO0.out hlt
      have HT := Aside0.mk (pcL_take n o i hlt)
      have e2 : Int.tmod ((i * o : Nat) : Int) (o : Int) = 0 := by rw [Int.natCast_mul]; exact Int.mul_tmod_left _ _
      have e3 : Int.tdiv ((i * o : Nat) : Int) (o : Int) = i := by rw [Int.natCast_mul]; exact Int.mul_tdiv_cancel _ (by omega)
      have HNX := Aside0.mk (show min ((i + 1) * o) n = i * o + min o (n - i * o) by rw [Nat.add_mul]; omega)
      have HPC := Aside0.mk (show pcAt n o i = ⟨i, 0, (min o (n - i * o) : Nat), (i * o : Nat)⟩ from rfl)
      have e0 : min (i * o) n = i * o := by omega
      rw [e0]
      have hLEN := Aside0.mk (show ((((pcL n o).take i).length + 1) * 32 ≤ 140737488355328) by rw [List.length_take, pcL_len]; omega)
      clear e0
      generalize i * o = a at *
      have e1 : IntKind.i64.wrap (a : Int) = a := IntWalk.i64_in _ (by omega)
      have e4 : IntKind.i64.wrap (i : Int) = i := IntWalk.i64_in _ (by omega)
      have e5 : IntKind.i64.wrap (o : Int) = o := IntWalk.i64_in _ (by omega)
      obtain ⟨b, hb⟩ : ∃ b, n - a = b := ⟨_, rfl⟩
      rw [hb] at HNX HPC
      have e6 : IntKind.i64.wrap ((n : Int) - (a : Int)) = (b : Int) := by rw [IntWalk.i64_in _ (by omega)]; omega
      have h2 : (a : Int) < n := by omega
      have hob : ¬ (o : Int) = 0 := ho1
      rcases Nat.lt_or_ge b o with hbo | hbo
      · have h3 : (b : Int) < o := by omega
        rw [show min o b = b by omega] at HNX HPC
        have e8 : IntKind.i64.wrap ((a : Int) + (b : Int)) = ((a + b : Nat) : Int) := by rw [IntWalk.i64_in _ (by omega)]; omega
        go_wp2
        go_region_with fail
        all_goals (go_wp2_with (first | ((with_reducible refine gate_builtin (b := .append) (xs := #[.tmp 62, .tmp 64]) rfl ?_); at_builtin; rw [show ((wr.alloc (Obj.cells #[.int .i64 (i : Int), .int .i64 0, .int .i64 (b : Int), .int .i64 (a : Int)] 94)).alloc (Obj.cells #[.int .i64 (i : Int), .int .i64 0, .int .i64 (b : Int), .int .i64 (a : Int)] 94)).drew = (wr.drew.alloc (Obj.cells #[.int .i64 (i : Int), .int .i64 0, .int .i64 (b : Int), .int .i64 (a : Int)] 94)).alloc (Obj.cells #[.int .i64 (i : Int), .int .i64 0, .int .i64 (b : Int), .int .i64 (a : Int)] 94) from rfl]; go_must (refine Kd.R_append k94 (w0 := w) w.heap.size rfl (.tmp 62) (.tmp 64) 90 94 (.agg #[.int .i64 0, .int .i64 0, .int .i64 0, .int .i64 0]) 32 rfl Try.underlying90 info94 rfl (by decide) (by omega) u10 ((pcL n o).take i) (pcAt n o i) [.int .i64 i, .int .i64 0, .int .i64 b, .int .i64 a] (fun _ => True) (fun _ => False) rfl ?hx ?aP (fun k_ hk_ => hk_.elim) (fun _ _ => trivial) ?aO ?aB ?aS hLEN.out ?_); (case hx => show Value.slice (some ⟨wr.heap.size + 1, 0, none⟩) 1 1 = _; simp); (case aP => rw [HPC.out]; exact k94_mkM _ _ _ _); (case aO => exact Kd.R_alloc (Kd.R_drew HO.out) _); (case aB => exact below_alloc (below_drew HB.out) _); (case aS => exact (below_alloc (below_drew HB.out) _).size); intro v65 w65 ho hb hg hat; have hz65 : w65.cell? ⟨wr.heap.size, 2, none⟩ = some (.int .i64 (b : Int)) := (blk_cell (blk_grown (g := wr.heap.size) (blk_new wr.drew _) hg (fun e => absurd (Kd.R_lt HO.out _ e.symm) (Nat.lt_irrefl _))) 2).trans rfl; have HO65 := Aside0.mk ho; have HB65 := Aside0.mk hb; clear ho hb hg hat)))
        all_goals (
          refine ⟨⟨i + 1, by omega, by rw [HNX.out]; simp, ⟨by rw [HT.out]; exact HO65.out⟩, HB65⟩, ?_⟩
          simp only [intOf]
          omega)
      · have h3 : ¬ (b : Int) < o := by omega
        rw [show min o b = o by omega] at HNX HPC
        have e8 : IntKind.i64.wrap ((a : Int) + (o : Int)) = ((a + o : Nat) : Int) := by rw [IntWalk.i64_in _ (by omega)]; omega
        go_wp2
        go_region_with fail
        all_goals (go_wp2_with (first | ((with_reducible refine gate_builtin (b := .append) (xs := #[.tmp 62, .tmp 64]) rfl ?_); at_builtin; rw [show ((wr.alloc (Obj.cells #[.int .i64 (i : Int), .int .i64 0, .int .i64 (o : Int), .int .i64 (a : Int)] 94)).alloc (Obj.cells #[.int .i64 (i : Int), .int .i64 0, .int .i64 (o : Int), .int .i64 (a : Int)] 94)).drew = (wr.drew.alloc (Obj.cells #[.int .i64 (i : Int), .int .i64 0, .int .i64 (o : Int), .int .i64 (a : Int)] 94)).alloc (Obj.cells #[.int .i64 (i : Int), .int .i64 0, .int .i64 (o : Int), .int .i64 (a : Int)] 94) from rfl]; go_must (refine Kd.R_append k94 (w0 := w) w.heap.size rfl (.tmp 62) (.tmp 64) 90 94 (.agg #[.int .i64 0, .int .i64 0, .int .i64 0, .int .i64 0]) 32 rfl Try.underlying90 info94 rfl (by decide) (by omega) u10 ((pcL n o).take i) (pcAt n o i) [.int .i64 i, .int .i64 0, .int .i64 o, .int .i64 a] (fun _ => True) (fun _ => False) rfl ?hx ?aP (fun k_ hk_ => hk_.elim) (fun _ _ => trivial) ?aO ?aB ?aS hLEN.out ?_); (case hx => show Value.slice (some ⟨wr.heap.size + 1, 0, none⟩) 1 1 = _; simp); (case aP => rw [HPC.out]; exact k94_mkM _ _ _ _); (case aO => exact Kd.R_alloc (Kd.R_drew HO.out) _); (case aB => exact below_alloc (below_drew HB.out) _); (case aS => exact (below_alloc (below_drew HB.out) _).size); intro v65 w65 ho hb hg hat; have hz65 : w65.cell? ⟨wr.heap.size, 2, none⟩ = some (.int .i64 (o : Int)) := (blk_cell (blk_grown (g := wr.heap.size) (blk_new wr.drew _) hg (fun e => absurd (Kd.R_lt HO.out _ e.symm) (Nat.lt_irrefl _))) 2).trans rfl; have HO65 := Aside0.mk ho; have HB65 := Aside0.mk hb; clear ho hb hg hat)))
        all_goals (
          refine ⟨⟨i + 1, by omega, by rw [HNX.out]; simp, ⟨by rw [HT.out]; exact HO65.out⟩, HB65⟩, ?_⟩
          simp only [intOf]
          omega)
    · obtain rfl : i = pcN n o := by omega
      have e0 : min (pcN n o * o) n = n := by
        have := HO0.out
        have h3 : n ≤ pcN n o * o := by unfold pcN; rcases this with rfl | rfl | rfl | rfl | rfl <;> omega
        omega
      rw [e0]
      go_wp2
      go_ret2
      exact ⟨_, rfl, by have := HO.out; rwa [List.take_of_length_le (by rw [pcL_len]; exact Nat.le_refl _)] at this, HB.out⟩

/-! ### slices_Clone_byte_byte: function 63 -/
/-- A copy of its own. -/
theorem slices_Clone_byte_byte.own (A0 : Option Addr) (c0 : Nat) (l0 : List Int) (w : World) (hr0 : Kd.C (Kd.int .u8) w A0 l0.length l0) (hp : l0.length < 140737488355328) :
    Calls Try.prog 63 #[.slice A0 l0.length c0] w fun e w' => ∃ v0_ : Value, e = .returned (v0_) ∧ Kd.R (Kd.int .u8) 5 w' w.heap.size (fun _ => True) v0_ l0 ∧ Below w.heap.size w w' := by
  have HR := Aside0.mk hr0
  rcases A0 with _ | ad
  · have hl : l0 = [] := by
      rcases l0 with _ | ⟨x, l⟩
      · rfl
      · obtain ⟨_, _, hc⟩ := hr0
        obtain ⟨ad, e, _⟩ := hc (by simp)
        cases e
    subst hl
    clear hr0 HR
    have heq : ∀ W : World, (binOp .eql 25 (.slice none 0 c0) (.slice none 0 0)).run Try.prog W = .ok (.bool true) W := fun W => Lib.run_eql_slice_nil (P := Try.prog) W 25 5 none 0 c0 0 0 Try.underlying25
    simp only [List.length_nil] at hp ⊢
    go_enter Try.func63, Try.ntmps63
    go_wp2
    go_ret
    exact ⟨_, rfl, Kd.R_nil _ _ _ _ _, Below.refl _ _⟩
  · clear hr0
    have heq : ∀ W : World, (binOp .eql 25 (.slice (some ad) l0.length c0) (.slice none 0 0)).run Try.prog W = .ok (.bool false) W := fun W => Lib.run_eql_slice_nil (P := Try.prog) W 25 5 (some ad) l0.length c0 0 0 Try.underlying25
    go_enter Try.func63, Try.ntmps63
    go_wp2_with (first | ((with_reducible refine gate_builtin (b := .append) (xs := #[.tmp 5, .tmp 6]) rfl ?_); at_builtin; refine Kd.R_append_rows (Kd.int .u8) (w0 := w) w.heap.size rfl (.tmp 5) (.tmp 6) 25 5 (.int .u8 0) 1 rfl Try.underlying25 info5 rfl (by decide) (by omega) _ [] l0 _ _ _ (fun _ => True) (fun _ => False) rfl rfl ?aO ?aR (fun _ _ h => h) (fun _ h => h.elim) (fun _ _ => trivial) ?aB ?aS ?aL ?_; (case aO => exact R_empty w w.heap.size (Nat.le_refl _)); (case aR => exact Kd.C_alloc HR.out _); (case aB => exact below_alloc (Below.refl _ w) _); (case aS => simp); (case aL => (simp; omega)); intro v3 w3 ho hb hg hat; clear hg hat; have HO3 := Aside0.mk ho; have HB3 := Aside0.mk hb; clear ho hb))
    go_ret
    exact ⟨_, rfl, by simpa using HO3.out, HB3.out⟩

-- AUX wr
/-- What a writer (h; z: it is nil) holds: its bytes, in blocks of S. -/
def Wr (w : World) (S : Nat → Prop) (z : Bool) (h : Value) (l : List Int) : Prop :=
  (z = true ∧ h = .pointer none ∧ l = []) ∨ (z = false ∧ ∃ p v, h = .pointer (some ⟨p, 0, none⟩) ∧ S p ∧ w.heap[p]? = some (.cells #[v] 73 (0, 0)) ∧ Kd.R (Kd.int .u8) 5 w 0 S v l)
/-- What is there behind bytes were put to it. -/
def app (z : Bool) (l bs : List Int) : List Int := if z = true then l else l ++ bs
theorem app_app (z : Bool) (l a b : List Int) : app z (app z l a) b = app z l (a ++ b) := by cases z <;> simp [app]
theorem app_nil (z : Bool) (l : List Int) : app z l [] = l := by cases z <;> simp [app]
theorem app_len (z : Bool) (l a : List Int) : (app z l a).length ≤ l.length + a.length := by cases z <;> simp [app]
theorem Wr.mono {w : World} {S T : Nat → Prop} {z : Bool} {h : Value} {l : List Int} (x : Wr w S z h l) (hS : ∀ i, S i → T i) : Wr w T z h l := by
  rcases x with x | ⟨hz, p, v, rfl, hp, hb, hr⟩
  · exact .inl x
  · exact .inr ⟨hz, p, v, rfl, hS _ hp, hb, Kd.R_mono hr hS⟩
theorem Wr.only {w w' : World} {S T : Nat → Prop} {z : Bool} {h : Value} {l : List Int} (x : Wr w S z h l) (k : Only w w' T) (hd : ∀ i, S i → ¬ T i) : Wr w' S z h l := by
  rcases x with x | ⟨hz, p, v, rfl, hp, hb, hr⟩
  · exact .inl x
  · exact .inr ⟨hz, p, v, rfl, hp, k.same_block hb (hd _ hp), R_only hr k hd⟩
theorem Wr.below {w w' : World} {S : Nat → Prop} {z : Bool} {h : Value} {l : List Int} (x : Wr w S z h l) (k : Below w.heap.size w w') : Wr w' S z h l := x.only (Only.of_below k (fun _ => False)) (fun _ _ h => h)
/-- What a writing call leaves. -/
structure WrTo (w w' : World) (S : Nat → Prop) (z : Bool) (h : Value) (l : List Int) : Prop where
  wr : Wr w' (Grow S w w') z h l
  only : Only w w' S
theorem WrTo.then_ {w w1 w2 : World} {S : Nat → Prop} {z : Bool} {h : Value} {l l2 : List Int} (x : WrTo w w1 S z h l) (y : WrTo w1 w2 (Grow S w w1) z h l2) : WrTo w w2 S z h l2 :=
  ⟨y.wr.mono (Grow.trans x.only.size y.only.size), x.only.trans y.only⟩
theorem WrTo.below {w w1 w2 : World} {S : Nat → Prop} {z : Bool} {h : Value} {l : List Int} (x : WrTo w w1 S z h l) (k : Below w1.heap.size w1 w2) : WrTo w w2 S z h l :=
  ⟨(x.wr.below k).mono (fun i hi => hi.imp id (fun h => ⟨h.1, by have := k.size; omega⟩)), x.only.below_ k⟩
theorem WrTo.refl {w : World} {S : Nat → Prop} {z : Bool} {h : Value} {l : List Int} (x : Wr w S z h l) : WrTo w w S z h l := ⟨x.mono (fun _ h => .inl h), Only.refl _ _⟩
theorem WrTo.late {w w1 w2 : World} {S : Nat → Prop} {z : Bool} {h : Value} {l : List Int} (k : Below w.heap.size w w1) (x : WrTo w1 w2 S z h l) : WrTo w w2 S z h l :=
  ⟨x.wr.mono (fun i hi => hi.imp id (fun h => ⟨by have := k.size; omega, h.2⟩)), (Only.of_below k S).same x.only⟩
theorem wr_put {w w1 : World} {S : Nat → Prop} {p : Nat} {v v1 : Value} {l l' : List Int} (hS : S p) (hblk : w.heap[p]? = some (.cells #[v] 73 (0, 0))) (h0 : Kd.R (Kd.int .u8) 5 w 0 S v l)
    (hO : Kd.R (Kd.int .u8) 5 w1 0 (fun k => S k ∨ w.heap.size ≤ k) v1 l') (hg : w.grownBy w1 v.ownBlock) :
    WrTo w (w1.setCell ⟨p, 0, none⟩ v1) S false (.pointer (some ⟨p, 0, none⟩)) l' := by
  have hne : some p ≠ v.ownBlock := fun e => by
    obtain ⟨inner, ho⟩ := Kd.R_own h0
    obtain ⟨cells, hc⟩ := own_typed ho p e.symm
    rw [hblk] at hc
    injection hc with hc
    injection hc with _ h2 _
    exact absurd h2 (by decide)
  have hb1 : w1.heap[p]? = some (.cells #[v] 73 (0, 0)) := (hg.block p (blk_size hblk) hne).trans hblk
  have hsz : (w1.setCell ⟨p, 0, none⟩ v1).heap.size = w1.heap.size := by simp [World.setCell]
  refine ⟨.inr ⟨rfl, p, v1, rfl, .inl hS, setCell_here hb1 0 v1, ?_⟩, (Only.of_grown hg (fun k hk => h0.1 k hk)).setCell (p := ⟨p, 0, none⟩) (.inl hS) v1⟩
  refine Kd.R_mono (Kd.R_bound (Kd.R_set hO hb1 (by decide) 0 v1)) (fun k hk => ?_)
  rw [hsz] at hk
  rcases hk.1 with h | h
  · exact .inl h
  · exact .inr ⟨h, by rw [hsz]; exact hk.2.2.1⟩

/-! ### slices_IndexFunc_byte_byte: function 70 -/
theorem nonzero_calls (x : Int) (w : World) : Calls Try.prog 69 #[.int .u8 x] w fun e w' => e = .returned (.bool (decide (x ≠ 0))) ∧ Drawn0 w w' := by
  by_cases h : x = 0
  · subst h
    go_enter Try.func69, Try.ntmps69
    go_wp2
    go_ret
    exact ⟨rfl, Drawn0.refl _⟩
  · have h2 : (x == 0) = false := beq_eq_false_iff_ne.2 h
    go_enter Try.func69, Try.ntmps69
    go_wp2
    go_ret
    exact ⟨by simp [h], Drawn0.refl _⟩
theorem slices_IndexFunc_byte_byte.calls (A0 : Option Addr) (c0 : Nat) (l0 : List Int) (w : World) (hr0 : Kd.C (Kd.int .u8) w A0 l0.length l0) :
    Calls Try.prog 70 #[.slice A0 l0.length c0, .func (.func 69) #[] #[]] w fun e w' => ∃ n : Int, e = .returned (.int .i64 n) ∧ decide (0 ≤ n) = l0.any (fun x => decide (x ≠ 0)) ∧ Drawn0 w w' := by
  have hn := hr0.2.1
  have HR := Aside0.mk hr0
  clear hr0
  go_enter Try.func70, Try.ntmps70
  go_wp2
  go_loopw [8] (fun v8 wr => ∃ k : Nat, k ≤ l0.length ∧ v8 = .int .i64 k ∧ Aside0 (∀ (j : Nat) (x : Int), j < k → l0[j]? = some x → x = 0) ∧ Aside0 (Drawn0 w wr)) (fun v8 _ => l0.length - (intOf v8).toNat)
  case atStart => exact ⟨0, by omega, rfl, ⟨fun j x hj => absurd hj (by omega)⟩, ⟨Drawn0.refl _⟩⟩
  case round =>
    obtain ⟨k, hk, rfl, HA, ⟨⟨nd, rfl⟩⟩⟩ := hrel
    by_cases hlt : k < l0.length
    · obtain ⟨ad, e, hx⟩ := Kd.at_int HR.out k (by omega) (by omega)
      subst e
      simp only [Int.toNat_natCast] at hx
      by_cases h3 : rd l0 k = 0
      · have HO := fun W => nonzero_calls (rd l0 k) W
        have HE := Aside0.mk h3
        rw [show decide (rd l0 k ≠ 0) = false by simp [h3]] at HO
        clear h3
        go_wp2_with fail
        refine (HO _).mono ?_
        rintro e w1 ⟨rfl, ⟨n2, rfl⟩⟩
        go_wp2
        refine ⟨⟨k + 1, by omega, by go_num, ⟨?_⟩, ⟨?_⟩⟩, by simp [intOf]; omega⟩
        · intro j x hj hx'
          by_cases hjk : j < k
          · exact HA.out j x hjk hx'
          · obtain rfl : j = k := by omega
            have : rd l0 (j : Int) = x := by simp [rd, hx']
            exact this.symm.trans HE.out
        · first | exact ⟨_, rfl⟩ | exact Drawn0.step (Drawn0.refl _)
      · have HO := fun W => nonzero_calls (rd l0 k) W
        have HE := Aside0.mk h3
        rw [show decide (rd l0 k ≠ 0) = true by simp [h3]] at HO
        clear h3
        go_wp2_with fail
        refine (HO _).mono ?_
        rintro e w1 ⟨rfl, ⟨n2, rfl⟩⟩
        go_wp2
        go_ret
        refine ⟨_, rfl, ?_, ⟨_, rfl⟩⟩
        have : (l0.any fun x => decide (x ≠ 0)) = true := List.any_eq_true.2 ⟨rd l0 k, by simp [rd, hlt], decide_eq_true HE.out⟩
        rw [this]
        exact decide_eq_true (by omega)
    · have hkk : k = l0.length := by omega
      go_wp2
      go_ret
      refine ⟨_, rfl, ?_, ⟨_, rfl⟩⟩
      have : (l0.any fun x => decide (x ≠ 0)) = false := by
        rw [List.any_eq_false]
        intro x hx
        obtain ⟨j, hj, e⟩ := List.getElem_of_mem hx
        have := HA.out j x (by omega) (by rw [List.getElem?_eq_getElem hj, e])
        simpa using this
      rw [this]
      exact decide_eq_false (by omega)

/-! ### slices_ContainsFunc_byte_byte: function 68 -/
theorem slices_ContainsFunc_byte_byte.calls (A0 : Option Addr) (c0 : Nat) (l0 : List Int) (w : World) (hr0 : Kd.C (Kd.int .u8) w A0 l0.length l0) :
    Calls Try.prog 68 #[.slice A0 l0.length c0, .func (.func 69) #[] #[]] w fun e w' => e = .returned (.bool (l0.any (fun x => decide (x ≠ 0)))) ∧ Drawn0 w w' := by
  have HC := fun W (h : Kd.C (Kd.int .u8) W A0 l0.length l0) => slices_IndexFunc_byte_byte.calls A0 c0 l0 W h
  have HR := Aside0.mk hr0
  clear hr0
  go_enter Try.func68, Try.ntmps68
  go_wp2_with fail
  refine (HC _ HR.out).mono ?_
  rintro e w1 ⟨n, rfl, hn, ⟨n2, rfl⟩⟩
  go_wp2
  go_ret
  exact ⟨by simp, ⟨_, rfl⟩⟩

/-! ### diff_record: function 59 -/
def zeroB (l : List Int) : Bool := !(l.any (fun x => decide (x ≠ 0)))
def recOf (a : Int) (b : List Int) : S61 := ⟨a, b.length, zeroB b, if zeroB b = true then [] else b⟩
theorem diff_record.calls (a : Int) (A0 : Option Addr) (c0 : Nat) (l0 : List Int) (w : World) (hr0 : Kd.C (Kd.int .u8) w A0 l0.length l0) (hc0 : l0.length ≤ c0) (hl : l0.length ≤ 1000000) :
    Calls Try.prog 59 #[.int .i64 a, .slice A0 l0.length c0] w fun e w' => ∃ v : Value, e = .returned (.agg #[.int .i64 a, .int .i64 l0.length, .bool (zeroB l0), v]) ∧ Kd.R (Kd.int .u8) 5 w' w.heap.size (fun _ => True) v (recOf a l0).f3 ∧ Below w.heap.size w w' := by
  have HC := fun W (h : Kd.C (Kd.int .u8) W A0 l0.length l0) => slices_ContainsFunc_byte_byte.calls A0 c0 l0 W h
  have HR := Aside0.mk hr0
  have HL := Aside0.mk hl
  clear hr0 hl
  have hz : zeroB l0 = !(l0.any (fun x => decide (x ≠ 0))) := rfl
  have HZ := Aside0.mk hz
  clear hz
  generalize (l0.any (fun x => decide (x ≠ 0))) = q at *
  cases q
  · go_enter Try.func59, Try.ntmps59
    go_wp2_with fail
    refine (HC _ (Kd.C_alloc HR.out _)).mono ?_
    rintro e w1 ⟨rfl, ⟨n2, rfl⟩⟩
    go_wp2
    refine bodyPost_ret (results_cell_row rfl _ _ w.heap.size 61 #[.int .i64 a, .int .i64 l0.length, .bool true, .slice none 0 0] (0, 0) _ rfl (blk_alloc (blk_put (blk_put (blk_put (blk_put (blk_drewN (blk_new w _) _) 0 _ rfl) 1 _ rfl) 2 _ rfl) 3 _ rfl) _) Try.underlying61 rfl (by kernel_rfl)) rfl ?_
    refine ⟨_, by rw [HZ.out]; rfl, ?_, below_alloc (below_set (below_set (below_set (below_set (pw_below_drewN (below_alloc (Below.refl _ _) _) _) (Nat.le_refl _)) (Nat.le_refl _)) (Nat.le_refl _)) (Nat.le_refl _)) _⟩
    have : (recOf a l0).f3 = [] := by unfold recOf; rw [HZ.out]; rfl
    rw [this]
    exact Kd.R_nil _ _ _ _ _
  · go_enter Try.func59, Try.ntmps59
    go_wp2_with fail
    refine (HC _ (Kd.C_alloc HR.out _)).mono ?_
    rintro e w1 ⟨rfl, ⟨n2, rfl⟩⟩
    go_wp2_with fail
    have hB1 : Below w.heap.size w (((w.alloc (.cells #[.int .i64 0, .int .i64 0, .bool false, .slice none 0 0] 61)).drewN n2).alloc (.cells #[.int .i64 a, .int .i64 l0.length, .bool false, .slice none 0 0] 61)) := below_alloc (pw_below_drewN (below_alloc (Below.refl _ _) _) _) _
    have hb0 : (((w.alloc (.cells #[.int .i64 0, .int .i64 0, .bool false, .slice none 0 0] 61)).drewN n2).alloc (.cells #[.int .i64 a, .int .i64 l0.length, .bool false, .slice none 0 0] 61)).heap[w.heap.size]? = some (.cells #[.int .i64 0, .int .i64 0, .bool false, .slice none 0 0] 61 (0, 0)) := blk_alloc (blk_drewN (blk_new w _) _) _
    have hb1 : (((w.alloc (.cells #[.int .i64 0, .int .i64 0, .bool false, .slice none 0 0] 61)).drewN n2).alloc (.cells #[.int .i64 a, .int .i64 l0.length, .bool false, .slice none 0 0] 61)).heap[w.heap.size + 1]? = some (.cells #[.int .i64 a, .int .i64 l0.length, .bool false, .slice none 0 0] 61 (0, 0)) := by
      have := blk_new ((w.alloc (.cells #[.int .i64 0, .int .i64 0, .bool false, .slice none 0 0] 61)).drewN n2) (.cells #[.int .i64 a, .int .i64 l0.length, .bool false, .slice none 0 0] 61)
      simpa using this
    have hCW := Kd.C_below HR.out hB1
    generalize (((w.alloc (.cells #[.int .i64 0, .int .i64 0, .bool false, .slice none 0 0] 61)).drewN n2).alloc (.cells #[.int .i64 a, .int .i64 l0.length, .bool false, .slice none 0 0] 61)) = W at *
    refine (slices_Clone_byte_byte.own A0 c0 l0 W hCW (by have := HL.out; omega)).mono ?_
    rintro e w2 ⟨v, rfl, hv, hb⟩
    have BK0 := Aside0.mk (blk_below hb0 hb)
    have BK1 := Aside0.mk (blk_below hb1 hb)
    have HB2 := Aside0.mk (below_step hB1 hb)
    have hbs := hB1.size
    have HV := Aside0.mk (Kd.R_lower hv hB1.size)
    have hne0 : ∀ k, v.ownBlock = some k → k ≠ w.heap.size ∧ k ≠ w.heap.size + 1 := fun k hk => by
      have h1 := Kd.R_base hv k hk
      have h2 := blk_lt hb0
      have h3 := blk_lt hb1
      omega
    have HNE := Aside0.mk hne0
    clear hv hb hB1 hb0 hb1 hCW hne0 hbs
    have hz0 : w2.cell? ⟨w.heap.size + 1, 0, none⟩ = some (.int .i64 a) := (blk_cell BK1.out 0).trans rfl
    have hz1 : w2.cell? ⟨w.heap.size + 1, 1, none⟩ = some (.int .i64 l0.length) := (blk_cell BK1.out 1).trans rfl
    have hz2 : w2.cell? ⟨w.heap.size + 1, 2, none⟩ = some (.bool false) := (blk_cell BK1.out 2).trans rfl
    have hz3 : w2.cell? ⟨w.heap.size + 1, 3, none⟩ = some (.slice none 0 0) := (blk_cell BK1.out 3).trans rfl
    have hf3 : w2.frozen? ⟨w.heap.size + 1, 3, none⟩ = false := blk_frozen BK1.out 3
    have hy0 : w2.cell? ⟨w.heap.size, 0, none⟩ = some (.int .i64 0) := (blk_cell BK0.out 0).trans rfl
    have hy1 : w2.cell? ⟨w.heap.size, 1, none⟩ = some (.int .i64 0) := (blk_cell BK0.out 1).trans rfl
    have hy2 : w2.cell? ⟨w.heap.size, 2, none⟩ = some (.bool false) := (blk_cell BK0.out 2).trans rfl
    have hy3 : w2.cell? ⟨w.heap.size, 3, none⟩ = some (.slice none 0 0) := (blk_cell BK0.out 3).trans rfl
    have hg0 : w2.frozen? ⟨w.heap.size, 0, none⟩ = false := blk_frozen BK0.out 0
    have hg1 : w2.frozen? ⟨w.heap.size, 1, none⟩ = false := blk_frozen BK0.out 1
    have hg2 : w2.frozen? ⟨w.heap.size, 2, none⟩ = false := blk_frozen BK0.out 2
    have hg3 : w2.frozen? ⟨w.heap.size, 3, none⟩ = false := blk_frozen BK0.out 3
    obtain ⟨A1, c1, rfl, hl1⟩ := Kd.R_reads HV.out
    go_wp2
    refine bodyPost_ret (results_cell_row rfl _ _ w.heap.size 61 #[.int .i64 a, .int .i64 l0.length, .bool false, .slice A1 l0.length c1] (0, 0) _ rfl (blk_put (blk_put (blk_put (blk_put (blk_far BK0.out (by simp) _) 0 _ rfl) 1 _ rfl) 2 _ rfl) 3 _ rfl) Try.underlying61 rfl (by kernel_rfl)) rfl ?_
    refine ⟨_, by rw [HZ.out]; rfl, ?_, below_set (below_set (below_set (below_set (below_set HB2.out (by omega)) (Nat.le_refl _)) (Nat.le_refl _)) (Nat.le_refl _)) (Nat.le_refl _)⟩
    have : (recOf a l0).f3 = l0 := by unfold recOf; rw [HZ.out]; rfl
    rw [this]
    have hn := HNE.out
    refine Kd.R_mono (Kd.R_far (Kd.R_far (Kd.R_far (Kd.R_far (Kd.R_far (ok := fun k => k ≠ w.heap.size ∧ k ≠ w.heap.size + 1) ⟨fun k hk => hn k hk, HV.out.2⟩ (fun k hk => hk.2) _) (fun k hk => hk.1) _) (fun k hk => hk.1) _) (fun k hk => hk.1) _) (fun k hk => hk.1) _) (fun _ _ => trivial)

/-! ### diff_between: function 34 -/
def seg (l : List Int) (a m : Nat) : List Int := (l.take (a + m)).drop a
theorem seg_len (l : List Int) (a m : Nat) (h : a + m ≤ l.length) : (seg l a m).length = m := by simp [seg]; omega
def pcM (n o i : Nat) : Nat := min o (n - i * o)
/-- The records of the first pieces. -/
def btwL (was fresh : List Int) (o : Nat) : Nat → List S61
  | 0 => []
  | i + 1 => btwL was fresh o i ++ (if seg was (i * o) (pcM fresh.length o i) = seg fresh (i * o) (pcM fresh.length o i) then [] else [recOf (i * o : Nat) (seg fresh (i * o) (pcM fresh.length o i))])
theorem btwL_len (was fresh : List Int) (o i : Nat) : (btwL was fresh o i).length ≤ i := by
  induction i with
  | zero => simp [btwL]
  | succ i ih =>
    rw [btwL, List.length_append]
    split <;> simp <;> omega
theorem equal_go (a b : List Int) (hl : a.length = b.length) (ha : a.length ≤ 1000000) : ∀ (m i k : Nat), i + m = a.length → m < k → slices_Equal_byte_byte.l0 k a b (a.length : Int) i = some (decide (a.drop i = b.drop i)) := by
  intro m
  induction m with
  | zero =>
    intro i k hi hk
    obtain ⟨k, rfl⟩ : ∃ k', k = k' + 1 := ⟨k - 1, by omega⟩
    rw [slices_Equal_byte_byte.l0, if_neg (by omega), List.drop_eq_nil_of_le (by omega), List.drop_eq_nil_of_le (by omega)]
    rfl
  | succ m ih =>
    intro i k hi hk
    obtain ⟨k, rfl⟩ : ∃ k', k = k' + 1 := ⟨k - 1, by omega⟩
    have e : wrap64 ((i : Int) + 1) = ((i + 1 : Nat) : Int) := by unfold wrap64; omega
    have r0 : rd a i = a[i] := by simp [rd, show i < a.length by omega]
    have r1 : rd b i = b[i] := by simp [rd, show i < b.length by omega]
    rw [slices_Equal_byte_byte.l0, if_pos (by omega), if_pos (by omega), if_pos (by omega), if_pos (by omega), e, ih (i + 1) k (by omega) (by omega), r0, r1]
    rw [List.drop_eq_getElem_cons (show i < a.length by omega), List.drop_eq_getElem_cons (show i < b.length by omega)]
    by_cases h : a[i] = b[i]
    · rw [if_pos h, h]; simp only [List.cons.injEq, true_and]
    · rw [if_neg h]; simp only [List.cons.injEq, h, false_and, decide_false]
theorem equal_f (a b : List Int) (ha : a.length ≤ 1000000) (k : Nat) (hk : a.length < k) : slices_Equal_byte_byte.f k a b = some (decide (a = b)) := by
  unfold slices_Equal_byte_byte.f
  by_cases h : (a.length : Int) = b.length
  · rw [if_pos h, show (0 : Int) = ((0 : Nat) : Int) from rfl, equal_go a b (by omega) ha a.length 0 k (by omega) hk]
    simp
  · rw [if_neg h, decide_eq_false]
    rintro rfl
    exact h rfl
theorem yes_calls (i : Int) (w : World) : Calls Try.prog 35 #[.int .i64 i] w fun e w' => e = .returned (.bool true) ∧ w' = w := by
  go_enter Try.func35, Try.ntmps35
  go_wp2
  go_ret
  exact ⟨rfl, rfl⟩
theorem sized_f (n : Int) : diff_sized.f n = some (decide (0 ≤ n ∧ n ≤ 4096)) := by
  unfold diff_sized.f
  by_cases h : n ≥ 0
  · rw [if_pos h]; congr 1; simp; omega
  · rw [if_neg h]; congr 1; symm; simp; omega
set_option maxHeartbeats 4000000 in
set_option maxRecDepth 100000 in
theorem diff_between.bad (A0 : Option Addr) (c0 : Nat) (l0 : List Int) (A1 : Option Addr) (c1 : Nat) (l1 : List Int) (o : Int) (w : World) (hl0 : l0.length ≤ 1000000) (hl1 : l1.length ≤ 1000000)
    (h : szB l1.length o = false ∨ (szB l1.length o = true ∧ 4096 < l0.length)) :
    Calls Try.prog 34 #[.slice A0 l0.length c0, .slice A1 l1.length c1, .int .i64 o, .func (.func 35) #[] #[]] w fun e w' => e = .returned (.tuple #[.agg #[.int .i64 0, .int .i64 0, .slice none 0 0], errW (some 1)]) ∧ Below w.heap.size w w' := by
  have hu27 := Try.underlying30
  have hu33 := Try.underlying39
  rcases h with h | ⟨h, h4⟩
  · have HP := fun W => stripe_Pieces.bad l1.length o (by omega) h W
    clear h
    go_enter Try.func34, Try.ntmps34
    go_wp2_with fail
    refine (HP _).mono ?_
    rintro e w1 ⟨rfl, ⟨n2, rfl⟩⟩
    rw [errW_some]
    go_wp2
    refine bodyPost_ret (results_ct rfl _ _ w.heap.size 35 #[.int .i64 0, .int .i64 0, .slice none 0 0] (0, 0) _ rfl (blk_put (blk_put (blk_put (blk_drewN (blk_new w _) _) 0 _ rfl) 1 _ rfl) 2 _ rfl) Try.underlying35 rfl (by kernel_rfl)) rfl ?_
    exact ⟨by simp [errW_some], below_set (below_set (below_set (pw_below_drewN (below_alloc (Below.refl _ _) _) _) (Nat.le_refl _)) (Nat.le_refl _)) (Nat.le_refl _)⟩
  · have hs : 0 ≤ (l1.length : Int) ∧ (l1.length : Int) ≤ 4096 ∧ (o = 16 ∨ o = 32 ∨ o = 64 ∨ o = 128 ∨ o = 256) := by unfold szB at h; simpa using h
    obtain ⟨q, rfl⟩ := Int.eq_ofNat_of_zero_le (show 0 ≤ o by omega)
    have HP := fun W => stripe_Pieces.good l1.length q (by omega) (by omega) W
    have HS := fun W => diff_sized.calls (l0.length : Int) false W (by rw [sized_f, decide_eq_false]; omega)
    clear h hs h4
    go_enter Try.func34, Try.ntmps34
    go_wp2_with fail
    refine (HP _).mono ?_
    rintro e w1 ⟨v1, rfl, -, hb⟩
    rw [errW_none]
    have BK := Aside0.mk (blk_below (blk_new w _) hb)
    have HB := Aside0.mk (below_step (below_alloc (Below.refl w.heap.size w) _) hb)
    clear hb
    have hz0 : w1.cell? ⟨w.heap.size, 0, none⟩ = some (.int .i64 0) := (blk_cell BK.out 0).trans rfl
    have hz1 : w1.cell? ⟨w.heap.size, 1, none⟩ = some (.int .i64 0) := (blk_cell BK.out 1).trans rfl
    have hz2 : w1.cell? ⟨w.heap.size, 2, none⟩ = some (.slice none 0 0) := (blk_cell BK.out 2).trans rfl
    have hf0 : w1.frozen? ⟨w.heap.size, 0, none⟩ = false := blk_frozen BK.out 0
    have hf1 : w1.frozen? ⟨w.heap.size, 1, none⟩ = false := blk_frozen BK.out 1
    have hf2 : w1.frozen? ⟨w.heap.size, 2, none⟩ = false := blk_frozen BK.out 2
    go_wp2_with fail
    refine (HS _).mono ?_
    rintro e w2 ⟨rfl, ⟨n2, rfl⟩⟩
    go_wp2
    refine bodyPost_ret (results_ct rfl _ _ w.heap.size 35 #[.int .i64 0, .int .i64 0, .slice none 0 0] (0, 0) _ rfl (blk_put (blk_put (blk_put (blk_drewN BK.out _) 0 _ rfl) 1 _ rfl) 2 _ rfl) Try.underlying35 rfl (by kernel_rfl)) rfl ?_
    exact ⟨by simp [errW_some], below_set (below_set (below_set (pw_below_drewN HB.out _) (Nat.le_refl _)) (Nat.le_refl _)) (Nat.le_refl _)⟩
attribute [-go_sem] Go.Builtin.append_
set_option maxHeartbeats 8000000 in
set_option maxRecDepth 100000 in
theorem diff_between.good (A0 : Option Addr) (c0 : Nat) (l0 : List Int) (A1 : Option Addr) (c1 : Nat) (l1 : List Int) (o : Nat) (w : World) (hr0 : Kd.C (Kd.int .u8) w A0 l0.length l0) (hc0 : l0.length ≤ c0) (hr1 : Kd.C (Kd.int .u8) w A1 l1.length l1) (hc1 : l1.length ≤ c1) (hl0 : l0.length ≤ 4096) (hl1 : l1.length ≤ 4096) (ho : o = 16 ∨ o = 32 ∨ o = 64 ∨ o = 128 ∨ o = 256) :
    Calls Try.prog 34 #[.slice A0 l0.length c0, .slice A1 l1.length c1, .int .i64 o, .func (.func 35) #[] #[]] w fun e w' => ∃ v : Value, e = .returned (.tuple #[.agg #[.int .i64 l0.length, .int .i64 l1.length, v], errW none]) ∧ Kd.S k61 61 w' w.heap.size (fun _ => True) v (btwL (szL l0 l1.length) l1 o (pcN l1.length o)) ∧ Below w.heap.size w w' := by
  have HPC := fun W => stripe_Pieces.good l1.length o hl1 ho W
  have HS := fun W => diff_sized.calls (l0.length : Int) true W (by rw [sized_f, decide_eq_true]; omega)
  have HR0 := Aside0.mk hr0
  have HR1 := Aside0.mk (Rk.of_C hr1)
  have HO := Aside0.mk ho
  clear hr0 hr1 ho
  go_enter Try.func34, Try.ntmps34
  go_wp2_with fail
  refine (HPC _).mono ?_
  rintro e w1 ⟨v1, rfl, hp, hb⟩
  rw [errW_none]
  have BK8 := Aside0.mk (blk_below (blk_new w _) hb)
  have HB1 := Aside0.mk (below_step (below_alloc (Below.refl w.heap.size w) _) hb)
  have HP := Aside0.mk (Kd.R_lower hp (below_alloc (Below.refl w.heap.size w) (.cells #[.int .i64 0, .int .i64 0, .slice none 0 0] 35)).size)
  obtain ⟨A5, c5, rfl, -⟩ := Kd.R_reads hp
  rw [pcL_len] at HP
  rw [pcL_len]
  clear hp hb HPC
  go_wp2_with fail
  refine (HS _).mono ?_
  rintro e w2 ⟨rfl, hd⟩
  have hb2 : Below w1.heap.size w1 w2 := by obtain ⟨_, rfl⟩ := hd; exact pw_below_drewN (Below.refl _ _) _
  have BK8 := Aside0.mk (blk_below BK8.out hb2)
  have HP := Aside0.mk (Kd.R_step HP.out (fun k _ hk => hb2.block k hk))
  have HB1 := Aside0.mk (below_step HB1.out hb2)
  clear hd hb2
  go_wp2_with fail
  have HK2 := Aside0.mk BK8.out
  have hb12 := blk_new w2 (.cells #[.int .i64 l0.length, .int .i64 l1.length, .slice none 0 0] 35)
  have HBW := below_alloc HB1.out (.cells #[.int .i64 l0.length, .int .i64 l1.length, .slice none 0 0] 35)
  refine (diff_resized.calls A0 c0 l0 l1.length _ (Kd.C_below HR0.out HBW) hc0 (by omega)).mono ?_
  rintro e w3 ⟨v3, rfl, ho3, hb3⟩
  have BK8 := Aside0.mk (blk_below (blk_alloc BK8.out (.cells #[.int .i64 l0.length, .int .i64 l1.length, .slice none 0 0] 35)) hb3)
  have BK12 := Aside0.mk (blk_below hb12 hb3)
  have HP := Aside0.mk (R_only (T := fun _ => False) (Kd.R_alloc (Kd.R_mono (Kd.R_bound HP.out) (ok' := fun j => j < w2.heap.size) (fun _ hk => hk.2.2.1)) (.cells #[.int .i64 l0.length, .int .i64 l1.length, .slice none 0 0] 35)) (Only.of_below hb3 _) (fun _ _ h => h))
  have HB3 := Aside0.mk (below_step HBW hb3)
  have hsz2 := blk_lt hb12
  have HW := Aside0.mk (R_made_in ho3)
  have hsz3 := hb3.size
  obtain ⟨A3, c3, rfl, -⟩ := Kd.R_reads ho3
  rw [szL_len] at HW ⊢
  have hlt8 := blk_lt BK8.out
  have hbase := HB1.out.size
  have hR1 := Aside0.mk (HR1.out.only (Only.of_below HB3.out (fun _ => False)) (fun _ _ h => h))
  have hb0 : w.heap.size < w2.heap.size := blk_lt HK2.out
  have hw23 : w2.heap.size < w3.heap.size := by simp at hsz3; omega
  have HW := Aside0.mk (Kd.R_mono HW.out (ok' := fun j => w2.heap.size < j ∧ j < w3.heap.size) (fun j hj => by simp at hj; omega))
  clear ho3 hb3 hb12 HBW HR1 HR0 HB1 HS hsz2 hsz3 hlt8 HK2
  go_wp2
  go_loopw [48] (fun v48 wr => ∃ (i : Nat) (v : Value), i ≤ pcN l1.length o ∧ v48 = .int .i64 i ∧ Aside0 (Kd.S k61 61 wr w3.heap.size (fun _ => True) v (btwL (szL l0 l1.length) l1 o i)) ∧ Aside0 (Only w3 wr (fun j => j = w2.heap.size)) ∧ Aside0 (wr.heap[w2.heap.size]? = some (.cells #[.int .i64 l0.length, .int .i64 l1.length, v] 35 (0, 0)))) (fun v48 _ => pcN l1.length o - (intOf v48).toNat)
  case atStart => exact ⟨0, _, by omega, rfl, ⟨Kd.S_nil _ _ _ _ _⟩, ⟨Only.refl _ _⟩, BK12⟩
  case round =>
    clear BK12
    obtain ⟨i, v, hi, rfl, HS, HN, BK12⟩ := hrel
    by_cases hlt : i < pcN l1.length o
    · have hm0 := pcN_lt l1.length o i HO.out hlt
      have hP := R_only HP.out HN.out (fun j hj e => by omega)
      obtain ⟨ad5, e5, hx0, hx1, hx2, hx3⟩ := at_T94 (Kd.R_reads' hP).2.2 i (by omega) (by rw [pcL_len]; omega)
      subst e5
      rw [pcL_at _ _ _ hlt] at hx0 hx1 hx2 hx3
      simp only [Int.toNat_natCast, pcAt] at hx0 hx1 hx2 hx3
      have HSTEP := Aside0.mk (show btwL (szL l0 l1.length) l1 o (i + 1) = btwL (szL l0 l1.length) l1 o i ++ (if seg (szL l0 l1.length) (i * o) (min o (l1.length - i * o)) = seg l1 (i * o) (min o (l1.length - i * o)) then [] else [recOf (i * o : Nat) (seg l1 (i * o) (min o (l1.length - i * o)))]) from rfl)
      have HBL := Aside0.mk (btwL_len (szL l0 l1.length) l1 o i)
      have HI := Aside0.mk (show i < 256 by have := pcN_le l1.length o hl1 HO.out; omega)
      have hm1 : 1 ≤ min o (l1.length - i * o) ∧ i * o + min o (l1.length - i * o) ≤ l1.length := by have := HO.out; omega
      generalize i * o = a at *
      generalize min o (l1.length - a) = m at *
      obtain ⟨hm1, hm2⟩ := hm1
      clear hP
      have hWr := R_only HW.out HN.out (fun j hj e => by omega)
      obtain ⟨g3, cap3, eg, -, -, -⟩ := Kd.R_form hWr (by rw [szL_len]; omega)
      injection eg with eA e3 e4
      subst eA e4
      obtain ⟨-, hc3, hC3⟩ := Kd.R_reads' hWr
      have hC1 := (hR1.out.only HN.out (fun j hj e => by omega)).row
      obtain ⟨ad1, e1, -⟩ := C_cells hC1 (by omega)
      subst e1
      have hl3 := seg_len (szL l0 l1.length) a m (by rw [szL_len]; exact hm2)
      have hl1' := seg_len l1 a m hm2
      have hS3 : Kd.C (Kd.int .u8) wr (some ⟨g3, a, none⟩) (seg (szL l0 l1.length) a m).length (seg (szL l0 l1.length) a m) := by
        have := Kd.C_mid (lo := a) (hi := a + m) hC3 (by omega) (by rw [szL_len]; exact hm2) (by rw [szL_len]; exact hc3)
        rw [if_neg (by omega)] at this
        have e : (Addr.add ⟨g3, 0, none⟩ (a * 1)) = ⟨g3, a, none⟩ := by simp [Addr.add]; omega
        rw [Option.map_some] at this
        simp only [Kd.int, Kd.scalar] at this e ⊢
        rw [e] at this
        exact this
      have hS1 : Kd.C (Kd.int .u8) wr (some (ad1.add a)) (seg l1 a m).length (seg l1 a m) := by
        have := Kd.C_mid (lo := a) (hi := a + m) hC1 (by omega) hm2 hc1
        rw [if_neg (by omega), Option.map_some] at this
        simp only [Kd.int, Kd.scalar, Nat.mul_one] at this ⊢
        exact this
      have HEQ := Aside0.mk (fun W (h1 : Kd.C (Kd.int .u8) W (some ⟨g3, a, none⟩) (seg (szL l0 l1.length) a m).length (seg (szL l0 l1.length) a m)) (h2 : Kd.C (Kd.int .u8) W (some (ad1.add a)) (seg l1 a m).length (seg l1 a m)) => by
        have := slices_Equal_byte_byte.calls 10000 (some ⟨g3, a, none⟩) (c3 - a) (seg (szL l0 l1.length) a m) (some (ad1.add a)) (c1 - a) (seg l1 a m) _ W h1 (by omega) h2 (by omega) (equal_f _ _ (by omega) _ (by omega))
        rw [hl3, hl1'] at this
        exact this)
      have HREC := Aside0.mk (fun W (h2 : Kd.C (Kd.int .u8) W (some (ad1.add a)) (seg l1 a m).length (seg l1 a m)) => by
        have := diff_record.calls (a : Int) (some (ad1.add a)) (c1 - a) (seg l1 a m) W h2 (by omega) (by omega)
        rw [hl1'] at this
        exact this)
      have HRO := Aside0.mk (show recOf (a : Int) (seg l1 a m) = ⟨a, m, zeroB (seg l1 a m), (recOf (a : Int) (seg l1 a m)).f3⟩ by unfold recOf; rw [hl1'])
      have HS3 := Aside0.mk hS3
      have HS1 := Aside0.mk hS1
      have q1 : (a : Int) ≤ (a : Int) + m := by omega
      have q2 : (a : Int) + m ≤ c3 := by omega
      have q3 : (a : Int) + m ≤ c1 := by omega
      have q4 : IntKind.i64.wrap ((a : Int) + m) = ((a + m : Nat) : Int) := by rw [IntWalk.i64_in _ (by omega)]; omega
      have q5 : ¬ c3 = a := by omega
      have q7 : a + m - a = m := by omega
      have q6 : ¬ c1 = a := by omega
      have hz2 : wr.cell? ⟨w2.heap.size, 2, none⟩ = some v := (blk_cell BK12.out 2).trans rfl
      have hz2f : wr.frozen? ⟨w2.heap.size, 2, none⟩ = false := blk_frozen BK12.out 2
      have hBK12 := BK12
      clear hWr hC1 hC3 hS3 hS1 hl3 hl1' e3
      go_wp2_with fail
      go_quiet (fail)
      go_wp2_with fail
      refine (yes_calls _ _).mono ?_
      rintro e w4 ⟨rfl, rfl⟩
      go_wp2_with fail
      refine (HEQ.out _ (Kd.C_drewN (Kd.C_alloc HS3.out _) _) (Kd.C_drewN (Kd.C_alloc HS1.out _) _)).mono ?_
      rintro e w4 ⟨rfl, ⟨nd, rfl⟩⟩
      by_cases hE : seg (szL l0 l1.length) a m = seg l1 a m
      · have HX := Aside0.mk hE
        rw [decide_eq_true hE]
        clear hE
        have hi2 := HI.out
        go_wp2
        exact ⟨⟨i + 1, v, by omega, by go_num, ⟨by rw [HSTEP.out, if_pos HX.out, List.append_nil]; exact Kd.S_drewN (Kd.S_alloc HS.out _) _⟩, ⟨(HN.out.alloc _).drewN _⟩, ⟨blk_drewN (blk_alloc BK12.out _) _⟩⟩, by simp [intOf]; omega⟩
      · have HX := Aside0.mk hE
        rw [decide_eq_false hE]
        clear hE
        go_wp2_with fail
        have hBW : Below wr.heap.size wr ((wr.alloc (.cells #[.int .i64 i, .int .i64 0, .int .i64 m, .int .i64 a] 94)).drewN (nq + nd)) := pw_below_drewN (below_alloc (Below.refl wr.heap.size wr) _) _
        have hB15 : ((wr.alloc (.cells #[.int .i64 i, .int .i64 0, .int .i64 m, .int .i64 a] 94)).drewN (nq + nd)).heap[wr.heap.size]? = some (.cells #[.int .i64 i, .int .i64 0, .int .i64 m, .int .i64 a] 94 (0, 0)) := blk_drewN (blk_new wr _) _
        generalize ((wr.alloc (.cells #[.int .i64 i, .int .i64 0, .int .i64 m, .int .i64 a] 94)).drewN (nq + nd)) = W at *
        have BW := Aside0.mk hBW
        have BKW := Aside0.mk (blk_below BK12.out hBW)
        have HSW := Aside0.mk (Kd.S_below HS.out hBW)
        have HSB := Aside0.mk (Kd.S_below (Kd.S_mono (Kd.S_bound HS.out) (ok' := fun k => k < wr.heap.size) (fun _ hk => hk.2.2.1)) hBW)
        have hu3 : W.cell? ⟨wr.heap.size, 3, none⟩ = some (.int .i64 a) := (blk_cell hB15 3).trans rfl
        have hu2 : W.cell? ⟨w2.heap.size, 2, none⟩ = some v := (blk_cell BKW.out 2).trans rfl
        have hws := hBW.size
        have hwr := HN.out.size
        have HCW := Aside0.mk (Kd.C_below HS1.out hBW)
        have HNW := Aside0.mk (HN.out.below_ hBW)
        have HVL := Aside0.mk (Kd.S_lt HS.out)
        clear hBW hB15 hz2 hz2f hx0 hx1 hx2 hx3 q1 q2 q3 q4 q5 q6 q7
        go_region_with ((go_at_call 59; refine (HREC.out _ (Kd.C_drew HCW.out)).mono ?_; rintro e w6 ⟨v6, rfl, ho6, hb6⟩; have hS6 := Kd.S_below (Kd.S_drew HSW.out) hb6; have hS6' := Kd.S_below (Kd.S_drew HSB.out) hb6; have hsz6 : W.heap.size ≤ w6.heap.size := hb6.size; have hBK6 := blk_below (blk_drew BKW.out) hb6; have hN6 := (HNW.out.drew).below_ hb6; have hu6 : w6.cell? ⟨w2.heap.size, 2, none⟩ = some v := (blk_cell hBK6 2).trans rfl; have hu6a : ∀ ob, (w6.alloc ob).cell? ⟨w2.heap.size, 2, none⟩ = some v := (fun ob => (blk_cell (blk_alloc hBK6 ob) 2).trans rfl); obtain ⟨v7, w7, hrun, hs7, hb7, hg7, -⟩ := S_append_run k61 (P := Try.prog) (w0 := w6) (W := w6) w3.heap.size 33 61 33 (.agg #[.int .i64 0, .int .i64 0, .bool false, .slice none 0 0]) 48 Try.underlying33 info61 rfl (by decide) (by omega) v (btwL (szL l0 l1.length) l1 o i) ⟨a, m, zeroB (seg l1 a m), (recOf (a : Int) (seg l1 a m)).f3⟩ [.int .i64 a, .int .i64 m, .bool (zeroB (seg l1 a m)), v6] (fun _ => True) (fun k => wr.heap.size ≤ k) (k61_mkM _ _ _ (⟨a, m, zeroB (seg l1 a m), (recOf (a : Int) (seg l1 a m)).f3⟩ : S61) (Kd.R_lower (Kd.R_mono (Kd.R_bound ho6) (fun k hk => by have := hk.2.1; simp at this; omega)) (by simp; omega))) (fun k hk => ⟨trivial, fun e => by have := HVL.out k e.symm; omega⟩) (fun _ _ => trivial) (Kd.S_mono (Kd.S_bound hS6') (fun k hk => ⟨trivial, by have := hk.1; omega⟩)) (Below.refl _ _) (by omega) (by have := HBL.out; have := HI.out; omega); obtain ⟨A7, c7, rfl⟩ := Kd.S_slice hs7; simp only [List.length_append, List.length_singleton] at hs7 hrun hg7; have hBK7 := blk_grown hBK6 hg7 (Kd.S_ne hS6 hBK6 (by decide)); have hv7 : w7.cell? ⟨w2.heap.size, 2, none⟩ = some v := (blk_cell hBK7 2).trans rfl; have hvf7 : w7.frozen? ⟨w2.heap.size, 2, none⟩ = false := blk_frozen hBK7 2; have HBK7 := Aside0.mk hBK7; have HS7 := Aside0.mk hs7; have HN7 := Aside0.mk (hN6.then_ (Only.of_grown hg7 (S := fun j => v.ownBlock = some j) (fun k hk => hk)) (fun j hj => Or.inr (Kd.S_base hS6 j hj))); clear ho6 hb6 hs7 hb7 hg7 hBK7 hBK6 hN6 hS6'))
        all_goals (
          have hi2 := HI.out
          go_wp2
          exact ⟨⟨i + 1, _, by omega, by go_num, ⟨by rw [HSTEP.out, if_neg HX.out, HRO.out]; exact Kd.S_mono (Kd.S_far (p := ⟨w2.heap.size, 2, none⟩) (Kd.S_mono (Kd.S_bound HS7.out) (ok' := fun k => w3.heap.size ≤ k) (fun _ hk => hk.2.1)) (fun k hk => Nat.ne_of_gt (Nat.lt_of_lt_of_le hw23 hk)) _) (fun _ _ => trivial)⟩, ⟨HN7.out.setCell (.inl rfl) _⟩, ⟨blk_put HBK7.out 2 _ rfl⟩⟩, by simp [intOf]; omega⟩)
    · obtain rfl : i = pcN l1.length o := by omega
      have BK := Aside0.mk (HN.out.same_block BK8.out (by omega))
      have hz0 : wr.cell? ⟨w2.heap.size, 0, none⟩ = some (.int .i64 l0.length) := (blk_cell BK12.out 0).trans rfl
      have hz1 : wr.cell? ⟨w2.heap.size, 1, none⟩ = some (.int .i64 l1.length) := (blk_cell BK12.out 1).trans rfl
      have hz2 : wr.cell? ⟨w2.heap.size, 2, none⟩ = some v := (blk_cell BK12.out 2).trans rfl
      have hy0 : wr.cell? ⟨w.heap.size, 0, none⟩ = some (.int .i64 0) := (blk_cell BK.out 0).trans rfl
      have hy1 : wr.cell? ⟨w.heap.size, 1, none⟩ = some (.int .i64 0) := (blk_cell BK.out 1).trans rfl
      have hy2 : wr.cell? ⟨w.heap.size, 2, none⟩ = some (.slice none 0 0) := (blk_cell BK.out 2).trans rfl
      have hf0 : wr.frozen? ⟨w.heap.size, 0, none⟩ = false := blk_frozen BK.out 0
      have hf1 : wr.frozen? ⟨w.heap.size, 1, none⟩ = false := blk_frozen BK.out 1
      have hf2 : wr.frozen? ⟨w.heap.size, 2, none⟩ = false := blk_frozen BK.out 2
      obtain ⟨A, c, rfl⟩ := Kd.S_slice HS.out
      go_wp2
      refine bodyPost_ret (results_ct rfl _ _ w.heap.size 35 #[.int .i64 l0.length, .int .i64 l1.length, .slice A (btwL (szL l0 l1.length) l1 o (pcN l1.length o)).length c] (0, 0) _ rfl (blk_put (blk_put (blk_put BK.out 0 _ rfl) 1 _ rfl) 2 _ rfl) Try.underlying35 rfl (by kernel_rfl)) rfl ?_
      refine ⟨_, by first | rfl | simp [errW_none], ?_, below_set (below_set (below_set ?_ (Nat.le_refl _)) (Nat.le_refl _)) (Nat.le_refl _)⟩
      · have h1 := Kd.S_mono (Kd.S_bound HS.out) (ok' := fun j => w3.heap.size ≤ j) (fun _ hk => hk.2.1)
        exact Kd.S_mono (Kd.S_lower (Kd.S_far (Kd.S_far (Kd.S_far h1 (fun k hk => by simp; omega) _) (fun k hk => by simp; omega) _) (fun k hk => by simp; omega) _) (by omega)) (fun _ _ => trivial)
      · exact HB3.out.trans (HN.out.below (B := w.heap.size) (fun j hj => by omega) (by omega))
def btwO (old fresh : List Int) (o : Int) : Int × Int × List S61 × Option Int :=
  if szB fresh.length o = true ∧ old.length ≤ 4096 then (old.length, fresh.length, btwL (szL old fresh.length) fresh o.toNat (pcN fresh.length o.toNat), none) else (0, 0, [], some 1)
theorem diff_between.calls (A0 : Option Addr) (c0 : Nat) (l0 : List Int) (A1 : Option Addr) (c1 : Nat) (l1 : List Int) (o : Int) (w : World) (hr0 : Kd.C (Kd.int .u8) w A0 l0.length l0) (hc0 : l0.length ≤ c0) (hr1 : Kd.C (Kd.int .u8) w A1 l1.length l1) (hc1 : l1.length ≤ c1) (hl0 : l0.length ≤ 1000000) (hl1 : l1.length ≤ 1000000) :
    Calls Try.prog 34 #[.slice A0 l0.length c0, .slice A1 l1.length c1, .int .i64 o, .func (.func 35) #[] #[]] w fun e w' => ∃ v : Value, e = .returned (.tuple #[.agg #[.int .i64 (btwO l0 l1 o).1, .int .i64 (btwO l0 l1 o).2.1, v], errW (btwO l0 l1 o).2.2.2]) ∧ Kd.S k61 61 w' w.heap.size (fun _ => True) v (btwO l0 l1 o).2.2.1 ∧ Below w.heap.size w w' := by
  unfold btwO
  by_cases h : szB l1.length o = true ∧ l0.length ≤ 4096
  · rw [if_pos h]
    have hs : 0 ≤ (l1.length : Int) ∧ (l1.length : Int) ≤ 4096 ∧ (o = 16 ∨ o = 32 ∨ o = 64 ∨ o = 128 ∨ o = 256) := by have := h.1; unfold szB at this; simpa using this
    obtain ⟨q, rfl⟩ := Int.eq_ofNat_of_zero_le (show 0 ≤ o by omega)
    exact diff_between.good A0 c0 l0 A1 c1 l1 q w hr0 hc0 hr1 hc1 h.2 (by omega) (by omega)
  · rw [if_neg h]
    refine (diff_between.bad A0 c0 l0 A1 c1 l1 o w hl0 hl1 ?_).mono ?_
    · cases hs : szB l1.length o
      · exact .inl rfl
      · exact .inr ⟨rfl, by have : ¬ l0.length ≤ 4096 := fun h2 => h ⟨hs, h2⟩; omega⟩
    · rintro e w1 ⟨rfl, hb⟩
      exact ⟨_, rfl, Kd.S_nil _ _ _ _ _, hb⟩

/-! ### diff_Between: function 19 -/
set_option maxRecDepth 100000 in
theorem diff_Between.calls (A0 : Option Addr) (c0 : Nat) (l0 : List Int) (A1 : Option Addr) (c1 : Nat) (l1 : List Int) (o : Int) (w : World) (hr0 : Kd.C (Kd.int .u8) w A0 l0.length l0) (hc0 : l0.length ≤ c0) (hr1 : Kd.C (Kd.int .u8) w A1 l1.length l1) (hc1 : l1.length ≤ c1) (hl0 : l0.length ≤ 1000000) (hl1 : l1.length ≤ 1000000) :
    Calls Try.prog 19 #[.slice A0 l0.length c0, .slice A1 l1.length c1, .int .i64 o] w fun e w' => ∃ v : Value, e = .returned (.tuple #[.agg #[.int .i64 (btwO l0 l1 o).1, .int .i64 (btwO l0 l1 o).2.1, v], errW (btwO l0 l1 o).2.2.2]) ∧ Kd.S k61 61 w' w.heap.size (fun _ => True) v (btwO l0 l1 o).2.2.1 ∧ Below w.heap.size w w' := by
  have HB := fun W (h0 : Kd.C (Kd.int .u8) W A0 l0.length l0) (h1 : Kd.C (Kd.int .u8) W A1 l1.length l1) => diff_between.calls A0 c0 l0 A1 c1 l1 o W h0 hc0 h1 hc1 hl0 hl1
  have HR0 := Aside0.mk hr0
  have HR1 := Aside0.mk hr1
  clear hr0 hr1
  generalize btwO l0 l1 o = q at *
  obtain ⟨q1, q2, q3, q4⟩ := q
  simp only at HB ⊢
  go_enter Try.func19, Try.ntmps19
  go_wp2_with fail
  refine (HB _ (Kd.C_alloc HR0.out _) (Kd.C_alloc HR1.out _)).mono ?_
  rintro e w1 ⟨v, rfl, hs, hb⟩
  have BK := Aside0.mk (blk_below (blk_new w _) hb)
  have HB1 := Aside0.mk (below_step (below_alloc (Below.refl w.heap.size w) _) hb)
  obtain ⟨A, c, rfl⟩ := Kd.S_slice hs
  have HS := Aside0.mk hs
  clear hs hb HB
  have hz0 : w1.cell? ⟨w.heap.size, 0, none⟩ = some (.int .i64 0) := (blk_cell BK.out 0).trans rfl
  have hz1 : w1.cell? ⟨w.heap.size, 1, none⟩ = some (.int .i64 0) := (blk_cell BK.out 1).trans rfl
  have hz2 : w1.cell? ⟨w.heap.size, 2, none⟩ = some (.slice none 0 0) := (blk_cell BK.out 2).trans rfl
  have hf0 : w1.frozen? ⟨w.heap.size, 0, none⟩ = false := blk_frozen BK.out 0
  have hf1 : w1.frozen? ⟨w.heap.size, 1, none⟩ = false := blk_frozen BK.out 1
  have hf2 : w1.frozen? ⟨w.heap.size, 2, none⟩ = false := blk_frozen BK.out 2
  go_wp2
  refine bodyPost_ret (results_ct rfl _ _ w.heap.size 35 #[.int .i64 q1, .int .i64 q2, .slice A q3.length c] (0, 0) _ rfl (blk_put (blk_put (blk_put BK.out 0 _ rfl) 1 _ rfl) 2 _ rfl) Try.underlying35 rfl (by kernel_rfl)) rfl ?_
  refine ⟨_, rfl, ?_, below_set (below_set (below_set HB1.out (Nat.le_refl _)) (Nat.le_refl _)) (Nat.le_refl _)⟩
  have hS := Kd.S_mono (Kd.S_bound HS.out) (ok' := fun j => w.heap.size < j) (fun k hk => by have := hk.2.1; simp at this; omega)
  exact Kd.S_mono (Kd.S_lower (Kd.S_far (Kd.S_far (Kd.S_far hS (fun k hk => Nat.ne_of_gt hk) _) (fun k hk => Nat.ne_of_gt hk) _) (fun k hk => Nat.ne_of_gt hk) _) (by simp)) (fun _ _ => trivial)

/-! ### laminalaw17_alive: function 8 -/
theorem btw_alive : btwO [] (List.replicate 19 0 ++ [1]) 16 = (0, 20, [⟨16, 4, false, [0, 0, 0, 1]⟩], none) := by rfl
set_option maxRecDepth 100000 in
set_option maxHeartbeats 4000000 in
theorem laminalaw17_alive.calls (w : World) : Calls Try.prog 8 #[] w fun e w' => e = .returned (.bool true) ∧ Below w.heap.size w w' := by
  go_enter Try.func8, Try.ntmps8
  go_wp2_with (first | ((with_reducible refine gate_dst (N := 4) rfl ?_); (try (refine gate_guard (by rfl) ?_; dsimp only)); refine Kd.R_make (Kd.int .u8) (w0 := w) w.heap.size 5 rfl (N := 4) rfl 25 _ _ rfl (19 : Int) rfl rfl Try.underlying25 (.int .u8 0) 1 info5 rfl (by decide) (by omega) 0 (ok := fun _ => True) (okp := fun _ => True) rfl (fun _ hk => hk) trivial (by omega) (by omega) (Below.refl _ _) (Nat.le_refl _) ?_; intro v2 w2 ho hb hg hnew; clear hg hnew; rw [show Int.toNat 19 = 19 from rfl] at ho; have HO := Aside0.mk ho; have HB := Aside0.mk hb; clear ho hb) | ((with_reducible refine gate_builtin (b := .append) (xs := #[.tmp 4, .tmp 5]) rfl ?_); at_builtin; refine Kd.R_append (Kd.int .u8) (w0 := w) w.heap.size rfl (.tmp 4) (.tmp 5) 25 5 (.int .u8 0) 1 rfl Try.underlying25 info5 rfl (by decide) (by omega) _ (List.replicate 19 0) 1 [.int .u8 1] (fun _ => True) (fun _ => False) rfl rfl rfl (fun _ h => h.elim) (fun _ _ => trivial) (HO.out) (HB.out) (HB.out.size) ((by simp)) ?_; intro v3 w3 ho hb hg hat; clear hg hat; have HO3 := Aside0.mk ho; have HB3 := Aside0.mk hb; clear ho hb) | fail)
  obtain ⟨A3, c3, rfl, -⟩ := Kd.R_reads HO3.out
  have hB := diff_Between.calls none 0 [] A3 c3 (List.replicate 19 0 ++ [1]) 16 w3 (Kd.R_reads' (Kd.R_nil (Kd.int .u8) 5 w3 0 (fun _ => True))).2.2 (by simp) (Kd.R_reads' HO3.out).2.2 (Kd.R_reads' HO3.out).2.1 (by simp) (by simp)
  rw [btw_alive] at hB
  refine hB.mono ?_
  rintro e w4 ⟨v4, rfl, hs, hb⟩
  have HB4 := Aside0.mk (below_step HB3.out hb)
  obtain ⟨A, c, rfl⟩ := Kd.S_slice hs
  obtain ⟨ad, A3', c3', e, hx0, hx1, hx2, hx3, hl3, -⟩ := at_T61 (Kd.R_reads' (Kd.S_R hs)).2.2 0 (by omega) (by simp)
  subst e
  rw [show rd_T61 [⟨16, 4, false, [0, 0, 0, 1]⟩] 0 = ⟨16, 4, false, [0, 0, 0, 1]⟩ from rfl] at hx0 hx1 hx2 hx3
  rw [show ad.add (Int.toNat 0 * 4) = ad from add_zero_ ad] at hx0 hx1 hx2 hx3
  have hy0 : ∀ ob, (w4.alloc ob).cell? ad = _ := fun ob => Lib.cell?_alloc_some ob hx0
  have hy1 : ∀ ob, (w4.alloc ob).cell? ⟨ad.block, ad.off + 1, none⟩ = _ := fun ob => Lib.cell?_alloc_some ob hx1
  have hy2 : ∀ ob, (w4.alloc ob).cell? ⟨ad.block, ad.off + 2, none⟩ = _ := fun ob => Lib.cell?_alloc_some ob hx2
  have hy3 : ∀ ob, (w4.alloc ob).cell? ⟨ad.block, ad.off + 3, none⟩ = _ := fun ob => Lib.cell?_alloc_some ob hx3
  clear hs hb hB HB HO HO3 HB3 hx0 hx1 hx2 hx3
  rw [errW_none]
  go_wp2
  go_ret
  exact ⟨rfl, below_alloc HB4.out _⟩

/-! ### laminalaw17_large: function 9 -/
def laminalaw17_large.l0 : Nat → List (S65) → Int → Int → Option (Bool)
  | 0, _, _, _ => none
  | k + 1, x10, x11, x12 => if x12 < x11 then (if 0 ≤ x12 then (if x12 < (x10.length : Int) then (if (((rd_T65 x10 x12).f3).length : Int) > 1000 then (some true) else (laminalaw17_large.l0 k x10 x11 (wrap64 (x12 + 1)))) else (none)) else (none)) else (some false)
def laminalaw17_large.f (k : Nat) (a0_0 : Int) (a0_1 : Int) (l0_2 : List (S65)) : Option (Bool) := if (l0_2.length : Int) > 40 then (some true) else (laminalaw17_large.l0 k l0_2 (l0_2.length : Int) 0)
theorem laminalaw17_large.mono_l : ∀ k, (∀ y0 y1 y2, LeO (laminalaw17_large.l0 k y0 y1 y2) (laminalaw17_large.l0 (k + 1) y0 y1 y2))
  | 0 => fun _ _ _ r h => by simp [laminalaw17_large.l0] at h
  | k + 1 => by
    have ih0 := laminalaw17_large.mono_l k
    · intro y0 y1 y2
      unfold laminalaw17_large.l0
      repeat' first
      | (with_reducible exact ih0 _ _ _)
      | (with_reducible exact LeO.refl _)
      | (with_reducible exact LeO.none _)
      | (with_reducible refine LeO.ite ?_ ?_)
      | (with_reducible refine LeO.bind ?_ (fun _ => ?_))
      | exact ih0 _ _ _
      | exact LeO.none _
      | refine LeO.ite ?_ ?_
      | refine LeO.bind ?_ (fun _ => ?_)
theorem laminalaw17_large.mono : ∀ a0 a1 a2 k, LeO (laminalaw17_large.f k a0 a1 a2) (laminalaw17_large.f (k + 1) a0 a1 a2) := by
  intro a0 a1 a2 k
  have ih0 := laminalaw17_large.mono_l k
  unfold laminalaw17_large.f
  repeat' first
      | (with_reducible exact ih0 _ _ _)
      | (with_reducible exact LeO.refl _)
      | (with_reducible exact LeO.none _)
      | (with_reducible refine LeO.ite ?_ ?_)
      | (with_reducible refine LeO.bind ?_ (fun _ => ?_))
      | exact ih0 _ _ _
      | exact LeO.none _
      | refine LeO.ite ?_ ?_
      | refine LeO.bind ?_ (fun _ => ?_)
set_option maxHeartbeats 8000000 in
set_option maxRecDepth 100000 in
theorem laminalaw17_large.calls (k : Nat) (a0_0 : Int) (a0_1 : Int) (A0_2 : Option Addr) (c0_2 : Nat) (l0_2 : List (S65)) (r : Bool) (w : World) (hr0_2 : Kd.C k65 w A0_2 l0_2.length l0_2) (hc0_2 : l0_2.length ≤ c0_2) (h : laminalaw17_large.f k a0_0 a0_1 l0_2 = some r) :
    Calls Try.prog 9 #[.agg #[.int .i64 a0_0, .int .i64 a0_1, .slice A0_2 l0_2.length c0_2]] w fun e w' => e = .returned (.bool r) ∧ Below w.heap.size w w' := by
  have hu24 := Try.underlying24
  have hu65 := Try.underlying65
  have HR0_2 := Aside0.mk hr0_2
  have HC0_2 := Aside0.mk hc0_2
  clear hr0_2 hc0_2
  have HB := Aside0.mk (Below.refl w.heap.size w)
  have H : (if (l0_2.length : Int) > 40 then (some true) else (laminalaw17_large.l0 k l0_2 (l0_2.length : Int) 0)) = some r := h
  clear h
  by_cases c2 : (l0_2.length : Int) > 40
  · rw [if_pos c2] at H
    have c2b0 : decide (40 < (l0_2.length : Int)) = true := decide_eq_true c2
    have c2b1 : decide (40 < l0_2.length) = true := decide_eq_true (by omega)
    clear c2
    obtain rfl := Option.some.inj H
    go_enter Try.func9, Try.ntmps9
    go_wp2_with (first | ((with_reducible refine gate_dst (N := 1) rfl ?_); refine box_event ?hg (N := 1) ?hd (cs := #[.int .i64 a0_0, .int .i64 a0_1, .slice A0_2 l0_2.length c0_2]) (t := 24) ?hr ?_; (case hd => rfl); (case hg => rfl); (case hr => first | (go_simp; done) | (go_simp; rfl)); intro gb103 hg w3 hbox hb; have n0_ := Aside0.mk (below_step (by repeat (first | (with_reducible first | exact HB.out | apply below_alloc | apply pw_below_drewN | apply below_drew1) | exact HB.out)) hb); have n1_ := Aside0.mk (hbox); have n2_ := Aside0.mk ((by rw [hg]; exact (below_size (by repeat (first | (with_reducible first | exact HB.out | apply below_alloc | apply pw_below_drewN | apply below_drew1) | exact HB.out))) : w.heap.size ≤ gb103)); have n3_ := Aside0.mk ((by rw [hg]; exact (below_size (by repeat (first | (with_reducible first | exact HB.out | apply below_alloc | apply pw_below_drewN | apply below_drew1) | exact HB.out))) : w.heap.size ≤ gb103)); clear HB; have HB := n0_; have BK103 := n1_; have GW103 := n2_; have GE103 := n3_; clear n0_ n1_ n2_ n3_; clear hb hbox hg; have hcz4_0 : w3.cell? ⟨gb103, 0, none⟩ = some (.int .i64 a0_0) := (blk_cell BK103.out 0).trans rfl; have hcz4_1 : w3.cell? ⟨gb103, 1, none⟩ = some (.int .i64 a0_1) := (blk_cell BK103.out 1).trans rfl; have hcz4_2 : w3.cell? ⟨gb103, 2, none⟩ = some (.slice A0_2 l0_2.length c0_2) := (blk_cell BK103.out 2).trans rfl; have hfz4_0 := blk_frozen BK103.out 0; have hfz4_1 := blk_frozen BK103.out 1; have hfz4_2 := blk_frozen BK103.out 2))
    go_ret
    exact ⟨by first | rfl | (simp [errW_none, errW_some] <;> rfl) | (simp [*, errW_none, errW_some] <;> rfl), by repeat (first | (with_reducible first | exact HB.out | apply below_alloc | apply pw_below_drewN | apply below_drew1 | refine below_set ?_ GE103.out) | exact HB.out)⟩
  · rw [if_neg c2] at H
    have c2b0 : decide (40 < (l0_2.length : Int)) = false := decide_eq_false c2
    have c2b1 : decide (40 < l0_2.length) = false := decide_eq_false (by omega)
    clear c2
    have H' := Aside0.mk H
    clear H
    go_enter Try.func9, Try.ntmps9
    go_wp2_with (first | ((with_reducible refine gate_dst (N := 1) rfl ?_); refine box_event ?hg (N := 1) ?hd (cs := #[.int .i64 a0_0, .int .i64 a0_1, .slice A0_2 l0_2.length c0_2]) (t := 24) ?hr ?_; (case hd => rfl); (case hg => rfl); (case hr => first | (go_simp; done) | (go_simp; rfl)); intro gb103 hg w5 hbox hb; have n0_ := Aside0.mk (below_step (by repeat (first | (with_reducible first | exact HB.out | apply below_alloc | apply pw_below_drewN | apply below_drew1) | exact HB.out)) hb); have n1_ := Aside0.mk (hbox); have n2_ := Aside0.mk ((by rw [hg]; exact (below_size (by repeat (first | (with_reducible first | exact HB.out | apply below_alloc | apply pw_below_drewN | apply below_drew1) | exact HB.out))) : w.heap.size ≤ gb103)); have n3_ := Aside0.mk ((by rw [hg]; exact (below_size (by repeat (first | (with_reducible first | exact HB.out | apply below_alloc | apply pw_below_drewN | apply below_drew1) | exact HB.out))) : w.heap.size ≤ gb103)); clear HB; have HB := n0_; have BK103 := n1_; have GW103 := n2_; have GE103 := n3_; clear n0_ n1_ n2_ n3_; clear hb hbox hg; have hcz6_0 : w5.cell? ⟨gb103, 0, none⟩ = some (.int .i64 a0_0) := (blk_cell BK103.out 0).trans rfl; have hcz6_1 : w5.cell? ⟨gb103, 1, none⟩ = some (.int .i64 a0_1) := (blk_cell BK103.out 1).trans rfl; have hcz6_2 : w5.cell? ⟨gb103, 2, none⟩ = some (.slice A0_2 l0_2.length c0_2) := (blk_cell BK103.out 2).trans rfl; have hfz6_0 := blk_frozen BK103.out 0; have hfz6_1 := blk_frozen BK103.out 1; have hfz6_2 := blk_frozen BK103.out 2))
    go_loopg [12] k (fun kq v12 w' => ∃ (x12_1 : Int), v12 = .int .i64 x12_1 ∧ Aside0 (laminalaw17_large.l0 kq l0_2 (l0_2.length : Int) x12_1 = some r) ∧ Aside0 (kq ≤ k) ∧ Aside0 (w'.heap[gb103]? = some (.cells #[.int .i64 a0_0, .int .i64 a0_1, (.slice A0_2 l0_2.length c0_2)] 24 (0, 0))) ∧ Aside0 (Below w.heap.size w w'))
    case atStart => exact ⟨(0), (by first | rfl | (simp; done) | (simp [*]; done)), H', ⟨Nat.le_refl _⟩, ⟨by (with_reducible repeat (first | refine blk_drewN ?_ _ | refine blk_drew ?_ | refine blk_alloc ?_ _)); exact BK103.out⟩, ⟨by repeat (first | (with_reducible first | exact HB.out | apply below_alloc | apply pw_below_drewN | apply below_drew1 | refine below_set ?_ GE103.out) | exact HB.out)⟩⟩
    case round =>
      clear H'
      try clear c2
      try clear c2b0
      try clear c2b1
      try clear p2
      try clear hcz4_0
      try clear hcz4_1
      try clear hcz4_2
      try clear hcz6_0
      try clear hcz6_1
      try clear hcz6_2
      try clear hfz4_0
      try clear hfz4_1
      try clear hfz4_2
      try clear hfz6_0
      try clear hfz6_1
      try clear hfz6_2
      obtain ⟨x12_1, rfl, HA, HK1, BK103, HB⟩ := hrel
      cases gk with
      | zero => exact absurd HA.out (by simp [laminalaw17_large.l0])
      | succ k1 =>
        have H := HA.out
        clear HA
        simp only [laminalaw17_large.l0] at H
        by_cases c7 : x12_1 < (l0_2.length : Int)
        · rw [if_pos c7] at H
          have c7b0 : decide (x12_1 < (l0_2.length : Int)) = true := decide_eq_true c7
          clear c7
          by_cases c8 : 0 ≤ x12_1
          · rw [if_pos c8] at H
            have c8b0 : decide (0 ≤ x12_1) = true := decide_eq_true c8
            clear c8
            by_cases c9 : x12_1 < (l0_2.length : Int)
            · rw [if_pos c9] at H
              have c9b0 : decide (x12_1 < (l0_2.length : Int)) = true := decide_eq_true c9
              clear c9
              by_cases c10 : (((rd_T65 l0_2 x12_1).f3).length : Int) > 1000
              · rw [if_pos c10] at H
                have c10b0 : decide (1000 < (((rd_T65 l0_2 x12_1).f3).length : Int)) = true := decide_eq_true c10
                have c10b1 : decide (1000 < ((rd_T65 l0_2 x12_1).f3).length) = true := decide_eq_true (by omega)
                clear c10
                obtain rfl := Option.some.inj H
                have p104 : 0 ≤ (x12_1 : Int) := of_decide_eq_true (by first | (with_reducible assumption) | assumption)
                have q104 : x12_1 < (l0_2.length : Int) := of_decide_eq_true (by first | (with_reducible assumption) | assumption)
                obtain ⟨ad104, A104_3, c104_3, e104, hx104_0, hx104_1, hx104_2, hx104_3, hl104_3, hi104_3⟩ := at_T65 HR0_2.out x12_1 p104 q104
                cases e104
                replace hx104_0 := (HB.out.cell (World.block_lt_of_cell? w _ hx104_0)).trans hx104_0
                replace hx104_1 := (HB.out.cell (World.block_lt_of_cell? w _ hx104_1)).trans hx104_1
                replace hx104_2 := (HB.out.cell (World.block_lt_of_cell? w _ hx104_2)).trans hx104_2
                replace hx104_3 := (HB.out.cell (World.block_lt_of_cell? w _ hx104_3)).trans hx104_3
                have HR104_3 := Aside0.mk hi104_3
                have HC104_3 := Aside0.mk hl104_3
                clear hi104_3 hl104_3
                replace p104 := eq_true p104
                replace q104 := eq_true q104
                go_wp2_with (first | ((with_reducible refine gate_dst (N := 4) rfl ?_); refine box_event ?hg (N := 4) ?hd (cs := #[.int .i64 0, .int .i64 0, .bool false, .slice none 0 0]) (t := 65) ?hr ?_; (case hd => rfl); (case hg => rfl); (case hr => first | (go_simp; done) | (go_simp; rfl)); intro gb105 hg w11 hbox hb; have n0_ := Aside0.mk (blk_below (g := gb103) (o := .cells #[.int .i64 a0_0, .int .i64 a0_1, .slice (some ad104) l0_2.length c0_2] 24 (0, 0)) (by (with_reducible repeat (first | refine blk_drewN ?_ _ | refine blk_drew ?_ | refine blk_alloc ?_ _)); exact BK103.out) hb); have n1_ := Aside0.mk (below_step (by repeat (first | (with_reducible first | exact HB.out | apply below_alloc | apply pw_below_drewN | apply below_drew1 | refine below_set ?_ GE103.out) | exact HB.out)) hb); have n2_ := Aside0.mk (hbox); have n3_ := Aside0.mk ((by rw [hg]; exact (below_size (by repeat (first | (with_reducible first | exact HB.out | apply below_alloc | apply pw_below_drewN | apply below_drew1 | refine below_set ?_ GE103.out) | exact HB.out))) : w.heap.size ≤ gb105)); have n4_ := Aside0.mk ((by rw [hg]; exact (below_size (by repeat (first | (with_reducible first | exact HB.out | apply below_alloc | apply pw_below_drewN | apply below_drew1 | refine below_set ?_ GE103.out) | exact HB.out))) : w.heap.size ≤ gb105)); have n5_ := Aside0.mk ((by rw [hg]; exact Nat.ne_of_lt (blk_lt (g := gb103) (o := .cells #[.int .i64 a0_0, .int .i64 a0_1, .slice (some ad104) l0_2.length c0_2] 24 (0, 0)) (by (with_reducible repeat (first | refine blk_drewN ?_ _ | refine blk_drew ?_ | refine blk_alloc ?_ _)); exact BK103.out)) : gb103 ≠ gb105)); have n6_ := Aside0.mk ((by rw [hg]; exact Nat.ne_of_gt (blk_lt (g := gb103) (o := .cells #[.int .i64 a0_0, .int .i64 a0_1, .slice (some ad104) l0_2.length c0_2] 24 (0, 0)) (by (with_reducible repeat (first | refine blk_drewN ?_ _ | refine blk_drew ?_ | refine blk_alloc ?_ _)); exact BK103.out)) : gb105 ≠ gb103)); clear BK103; clear HB; have BK103 := n0_; have HB := n1_; have BK105 := n2_; have GW105 := n3_; have GE105 := n4_; have NB103_105 := n5_; have NB105_103 := n6_; clear n0_ n1_ n2_ n3_ n4_ n5_ n6_; clear hb hbox hg; have hnb12 := NB105_103.out; have hnc12 := NB103_105.out; have hcz13_0 : w11.cell? ⟨gb105, 0, none⟩ = some (.int .i64 0) := (blk_cell BK105.out 0).trans rfl; have hcz13_1 : w11.cell? ⟨gb105, 1, none⟩ = some (.int .i64 0) := (blk_cell BK105.out 1).trans rfl; have hcz13_2 : w11.cell? ⟨gb105, 2, none⟩ = some (.bool false) := (blk_cell BK105.out 2).trans rfl; have hcz13_3 : w11.cell? ⟨gb105, 3, none⟩ = some (.slice none 0 0) := (blk_cell BK105.out 3).trans rfl; have hfz13_0 := blk_frozen BK105.out 0; have hfz13_1 := blk_frozen BK105.out 1; have hfz13_2 := blk_frozen BK105.out 2; have hfz13_3 := blk_frozen BK105.out 3))
                go_ret
                exact ⟨by first | rfl | (simp [errW_none, errW_some] <;> rfl) | (simp [*, errW_none, errW_some] <;> rfl), by repeat (first | (with_reducible first | exact HB.out | apply below_alloc | apply pw_below_drewN | apply below_drew1 | refine below_set ?_ GE103.out | refine below_set ?_ GE105.out) | exact HB.out)⟩
              · rw [if_neg c10] at H
                have c10b0 : decide (1000 < (((rd_T65 l0_2 x12_1).f3).length : Int)) = false := decide_eq_false c10
                have c10b1 : decide (1000 < ((rd_T65 l0_2 x12_1).f3).length) = false := decide_eq_false (by omega)
                clear c10
                have H' := Aside0.mk H
                clear H
                have p104 : 0 ≤ (x12_1 : Int) := of_decide_eq_true (by first | (with_reducible assumption) | assumption)
                have q104 : x12_1 < (l0_2.length : Int) := of_decide_eq_true (by first | (with_reducible assumption) | assumption)
                obtain ⟨ad104, A104_3, c104_3, e104, hx104_0, hx104_1, hx104_2, hx104_3, hl104_3, hi104_3⟩ := at_T65 HR0_2.out x12_1 p104 q104
                cases e104
                replace hx104_0 := (HB.out.cell (World.block_lt_of_cell? w _ hx104_0)).trans hx104_0
                replace hx104_1 := (HB.out.cell (World.block_lt_of_cell? w _ hx104_1)).trans hx104_1
                replace hx104_2 := (HB.out.cell (World.block_lt_of_cell? w _ hx104_2)).trans hx104_2
                replace hx104_3 := (HB.out.cell (World.block_lt_of_cell? w _ hx104_3)).trans hx104_3
                have HR104_3 := Aside0.mk hi104_3
                have HC104_3 := Aside0.mk hl104_3
                clear hi104_3 hl104_3
                replace p104 := eq_true p104
                replace q104 := eq_true q104
                go_wp2_with (first | ((with_reducible refine gate_dst (N := 4) rfl ?_); refine box_event ?hg (N := 4) ?hd (cs := #[.int .i64 0, .int .i64 0, .bool false, .slice none 0 0]) (t := 65) ?hr ?_; (case hd => rfl); (case hg => rfl); (case hr => first | (go_simp; done) | (go_simp; rfl)); intro gb105 hg w14 hbox hb; have n0_ := Aside0.mk (blk_below (g := gb103) (o := .cells #[.int .i64 a0_0, .int .i64 a0_1, .slice (some ad104) l0_2.length c0_2] 24 (0, 0)) (by (with_reducible repeat (first | refine blk_drewN ?_ _ | refine blk_drew ?_ | refine blk_alloc ?_ _)); exact BK103.out) hb); have n1_ := Aside0.mk (below_step (by repeat (first | (with_reducible first | exact HB.out | apply below_alloc | apply pw_below_drewN | apply below_drew1 | refine below_set ?_ GE103.out) | exact HB.out)) hb); have n2_ := Aside0.mk (hbox); have n3_ := Aside0.mk ((by rw [hg]; exact (below_size (by repeat (first | (with_reducible first | exact HB.out | apply below_alloc | apply pw_below_drewN | apply below_drew1 | refine below_set ?_ GE103.out) | exact HB.out))) : w.heap.size ≤ gb105)); have n4_ := Aside0.mk ((by rw [hg]; exact (below_size (by repeat (first | (with_reducible first | exact HB.out | apply below_alloc | apply pw_below_drewN | apply below_drew1 | refine below_set ?_ GE103.out) | exact HB.out))) : w.heap.size ≤ gb105)); have n5_ := Aside0.mk ((by rw [hg]; exact Nat.ne_of_lt (blk_lt (g := gb103) (o := .cells #[.int .i64 a0_0, .int .i64 a0_1, .slice (some ad104) l0_2.length c0_2] 24 (0, 0)) (by (with_reducible repeat (first | refine blk_drewN ?_ _ | refine blk_drew ?_ | refine blk_alloc ?_ _)); exact BK103.out)) : gb103 ≠ gb105)); have n6_ := Aside0.mk ((by rw [hg]; exact Nat.ne_of_gt (blk_lt (g := gb103) (o := .cells #[.int .i64 a0_0, .int .i64 a0_1, .slice (some ad104) l0_2.length c0_2] 24 (0, 0)) (by (with_reducible repeat (first | refine blk_drewN ?_ _ | refine blk_drew ?_ | refine blk_alloc ?_ _)); exact BK103.out)) : gb105 ≠ gb103)); clear BK103; clear HB; have BK103 := n0_; have HB := n1_; have BK105 := n2_; have GW105 := n3_; have GE105 := n4_; have NB103_105 := n5_; have NB105_103 := n6_; clear n0_ n1_ n2_ n3_ n4_ n5_ n6_; clear hb hbox hg; have hnb15 := NB105_103.out; have hnc15 := NB103_105.out; have hcz16_0 : w14.cell? ⟨gb105, 0, none⟩ = some (.int .i64 0) := (blk_cell BK105.out 0).trans rfl; have hcz16_1 : w14.cell? ⟨gb105, 1, none⟩ = some (.int .i64 0) := (blk_cell BK105.out 1).trans rfl; have hcz16_2 : w14.cell? ⟨gb105, 2, none⟩ = some (.bool false) := (blk_cell BK105.out 2).trans rfl; have hcz16_3 : w14.cell? ⟨gb105, 3, none⟩ = some (.slice none 0 0) := (blk_cell BK105.out 3).trans rfl; have hfz16_0 := blk_frozen BK105.out 0; have hfz16_1 := blk_frozen BK105.out 1; have hfz16_2 := blk_frozen BK105.out 2; have hfz16_3 := blk_frozen BK105.out 3))
                go_roundg k1
                case measure => have := HK1.out; omega
                case rel => exact ⟨(wrap64 (x12_1 + 1)), (by first | rfl | (simp; done) | (simp [*]; done)), H', ⟨by have := HK1.out; omega⟩, ⟨by (with_reducible repeat (first | refine blk_drewN ?_ _ | refine blk_drew ?_ | refine blk_alloc ?_ _)); refine blk_far ?_ NB103_105.out _; (with_reducible repeat (first | refine blk_drewN ?_ _ | refine blk_drew ?_ | refine blk_alloc ?_ _)); refine blk_far ?_ NB103_105.out _; (with_reducible repeat (first | refine blk_drewN ?_ _ | refine blk_drew ?_ | refine blk_alloc ?_ _)); refine blk_far ?_ NB103_105.out _; (with_reducible repeat (first | refine blk_drewN ?_ _ | refine blk_drew ?_ | refine blk_alloc ?_ _)); refine blk_far ?_ NB103_105.out _; (with_reducible repeat (first | refine blk_drewN ?_ _ | refine blk_drew ?_ | refine blk_alloc ?_ _)); exact BK103.out⟩, ⟨by repeat (first | (with_reducible first | exact HB.out | apply below_alloc | apply pw_below_drewN | apply below_drew1 | refine below_set ?_ GE103.out | refine below_set ?_ GE105.out) | exact HB.out)⟩⟩
            · rw [if_neg c9] at H
              exact absurd H (by simp)
          · rw [if_neg c8] at H
            exact absurd H (by simp)
        · rw [if_neg c7] at H
          have c7b0 : decide (x12_1 < (l0_2.length : Int)) = false := decide_eq_false c7
          clear c7
          obtain rfl := Option.some.inj H
          go_wp2
          go_ret
          exact ⟨by first | rfl | (simp [errW_none, errW_some] <;> rfl) | (simp [*, errW_none, errW_some] <;> rfl), by repeat (first | (with_reducible first | exact HB.out | apply below_alloc | apply pw_below_drewN | apply below_drew1 | refine below_set ?_ GE103.out) | exact HB.out)⟩

/-! ### laminanum_Copy: function 10 -/
/-- What a copy with marks is: its block holds the bytes and the two marks. -/
theorem laminanum_Copy.calls (A0 : Option Addr) (c0 : Nat) (l0 : List Int) (w : World) (hr0 : Kd.C (Kd.int .u8) w A0 l0.length l0) (hn : l0.length ≤ 900000) :
    Calls Try.prog 10 #[.slice A0 l0.length c0] w fun e w' => ∃ (g cap : Nat), e = .returned (.slice (some ⟨g, 0, none⟩) l0.length cap) ∧ w.heap.size ≤ g ∧
      Kd.R (Kd.int .u8) 5 w' w.heap.size (fun _ => True) (.slice (some ⟨g, 0, none⟩) (l0 ++ [165, 90]).length cap) (l0 ++ [165, 90]) ∧ Below w.heap.size w w' := by
  have HR := Aside0.mk hr0
  clear hr0
  have hmk := fun W : World => make_bytes W (l0.length + 2) (by omega)
  simp only [Int.natCast_add, Int.cast_ofNat_Int] at hmk
  go_enter Try.func10, Try.ntmps10
  go_wp2_with (first | ((with_reducible refine gate_builtin (b := .append) (xs := #[.tmp 6, .tmp 7]) rfl ?_); at_builtin; refine Kd.R_append_rows (Kd.int .u8) (w0 := w) w.heap.size rfl (.tmp 6) (.tmp 7) 25 5 (.int .u8 0) 1 rfl Try.underlying25 info5 rfl (by decide) (by omega) _ [] l0 _ _ _ (fun _ => True) (fun _ => False) rfl rfl ?aO ?aR (fun _ _ h => h) (fun _ h => h.elim) (fun _ _ => trivial) ?aB ?aS ?aL ?_; (case aO => exact R_made w (l0.length + 2) (by omega)); (case aR => exact Kd.C_alloc HR.out _); (case aB => exact below_alloc (Below.refl _ _) _); (case aS => simp); (case aL => (simp; omega)); intro v1 w1 ho hb hg hat; clear hg hat; have HO := Aside0.mk ho; have HB := Aside0.mk hb; clear ho hb) | ((with_reducible refine gate_builtin (b := .append) (xs := #[.tmp 8, .tmp 9]) rfl ?_); at_builtin; refine Kd.R_append_rows (Kd.int .u8) (w0 := w) w.heap.size rfl (.tmp 8) (.tmp 9) 25 5 (.int .u8 0) 1 rfl Try.underlying25 info5 rfl (by decide) (by omega) _ ([] ++ l0) [165, 90] _ _ _ (fun _ => True) (fun _ => False) rfl rfl ?bO ?bR (fun _ _ h => h) (fun _ h => h.elim) (fun _ _ => trivial) ?bB ?bS ?bL ?_; (case bO => exact Kd.R_alloc HO.out _); (case bR => exact C_two w1 165 90); (case bB => exact below_alloc HB.out _); (case bS => (have := HB.out.size; simp; omega)); (case bL => (simp; omega)); intro v2 w2 ho hb hg hat; clear hg hat; have HB2 := Aside0.mk hb; clear hb; obtain ⟨g, cap, hv, hgb, hgl, -⟩ := Kd.R_form ho (by simp); subst hv; have HO2 := Aside0.mk ho; have hcap : l0.length ≤ cap := (by have := (Kd.R_reads' ho).2.1; simp at this; omega); clear ho))
  go_ret
  exact ⟨g, cap, rfl, hgb, by simpa using HO2.out, HB2.out⟩

end Go.Proofs.Ytdehifinipmmcaa.Hp
