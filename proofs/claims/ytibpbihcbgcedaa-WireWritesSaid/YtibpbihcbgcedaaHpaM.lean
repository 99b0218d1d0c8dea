/- Contracts of functions of the given program, and what they lean on: written by this session's own program hprint.py, which lays hand texts into the kit's printer. -/
import Derived.Test.YtibpbihcbgcedaaHp0
namespace Go.Proofs.Ytibpbihcbgcedaa.Hp
open Go.RowKit Go.Proofs.YtibpbihcbgcedaaW.PrintWords Go.Proofs.YtibpbihcbgcedaaW.PrintLast Go.Proofs.YtibpbihcbgcedaaW.PrintMore
attribute [local go_sem] max2_int min2_int max_two min_two max_three min_three max_four min_four   -- for this text's walks alone
set_option linter.unusedVariables false
set_option linter.unusedSimpArgs false

-- AUX M
-- Words of this session: what a call may change (a set of blocks), and what stays.
/-- Only the blocks of S have changed; blocks were added. -/
structure Only (w w' : World) (S : Nat → Prop) : Prop where
  os : w'.os = w.os
  tape : w'.tape = w.tape
  output : w'.output = w.output
  size : w.heap.size ≤ w'.heap.size
  block : ∀ i, i < w.heap.size → ¬ S i → w'.heap[i]? = w.heap[i]?
/-- A set of blocks, and those that were added. -/
def Grow (S : Nat → Prop) (w w' : World) : Nat → Prop := fun i => S i ∨ (w.heap.size ≤ i ∧ i < w'.heap.size)
theorem Only.refl (w : World) (S : Nat → Prop) : Only w w S := ⟨rfl, rfl, rfl, Nat.le_refl _, fun _ _ _ => rfl⟩
theorem Only.mono {w w' : World} {S T : Nat → Prop} (h : Only w w' S) (hS : ∀ i, S i → T i) : Only w w' T := ⟨h.os, h.tape, h.output, h.size, fun i hi hn => h.block i hi (fun hs => hn (hS i hs))⟩
theorem Only.then_ {w w1 w2 : World} {S T : Nat → Prop} (h : Only w w1 S) (k : Only w1 w2 T) (hT : ∀ i, T i → S i ∨ w.heap.size ≤ i) : Only w w2 S :=
  ⟨k.os.trans h.os, k.tape.trans h.tape, k.output.trans h.output, Nat.le_trans h.size k.size, fun i hi hn => (k.block i (Nat.lt_of_lt_of_le hi h.size) (fun ht => (hT i ht).elim hn (fun hge => by omega))).trans (h.block i hi hn)⟩
theorem Only.trans {w w1 w2 : World} {S : Nat → Prop} (h : Only w w1 S) (k : Only w1 w2 (Grow S w w1)) : Only w w2 S := h.then_ k (fun _ hi => hi.imp id (fun h => h.1))
theorem Only.same {w w1 w2 : World} {S : Nat → Prop} (h : Only w w1 S) (k : Only w1 w2 S) : Only w w2 S := h.then_ k (fun _ hi => .inl hi)
theorem Only.of_below {w w' : World} (h : Below w.heap.size w w') (S : Nat → Prop) : Only w w' S := ⟨h.os, h.tape, h.output, h.size, fun i hi _ => h.block i hi⟩
theorem Only.below_ {w w1 w2 : World} {S : Nat → Prop} (h : Only w w1 S) (k : Below w1.heap.size w1 w2) : Only w w2 S := h.then_ (Only.of_below k (fun _ => False)) (fun _ hf => hf.elim)
theorem Only.below {w w' : World} {S : Nat → Prop} {B : Nat} (h : Only w w' S) (hS : ∀ i, S i → B ≤ i) (hB : B ≤ w.heap.size) : Below B w w' := ⟨h.os, h.tape, h.output, h.size, fun i hi => h.block i (by omega) (fun hs => by have := hS i hs; omega)⟩
theorem Only.of_grown {w w' : World} {row : Option Nat} {S : Nat → Prop} (hg : w.grownBy w' row) (hS : ∀ k, row = some k → S k) : Only w w' S := ⟨hg.os, hg.tape, hg.output, hg.size, fun i hi hn => hg.block i hi (fun h => hn (hS i h.symm))⟩
theorem Only.setCell {w w' : World} {S : Nat → Prop} (h : Only w w' S) {p : Addr} (hp : S p.block ∨ w.heap.size ≤ p.block) (u : Value) : Only w (w'.setCell p u) S :=
  ⟨h.os, h.tape, h.output, by have := h.size; simp only [World.setCell, Array.size_modify]; exact this, fun i hi hn => (Below.heap_setCell w' p u i (fun e => by subst e; exact hp.elim hn (fun hge => by omega))).trans (h.block i hi hn)⟩
theorem Only.alloc {w w' : World} {S : Nat → Prop} (h : Only w w' S) (o : Obj) : Only w (w'.alloc o) S := h.below_ (below_alloc (Below.refl _ _) o)
theorem Only.drewN {w w' : World} {S : Nat → Prop} (h : Only w w' S) (n : Nat) : Only w (w'.drewN n) S := h.below_ (pw_below_drewN (Below.refl _ _) n)
theorem Only.drew {w w' : World} {S : Nat → Prop} (h : Only w w' S) : Only w w'.drew S := h.below_ (below_drew (Below.refl _ _))
theorem Only.same_block {w w' : World} {S : Nat → Prop} (h : Only w w' S) {i : Nat} {o : Obj} (hb : w.heap[i]? = some o) (hn : ¬ S i) : w'.heap[i]? = some o := by
  have hi : i < w.heap.size := by
    rcases Nat.lt_or_ge i w.heap.size with h | h
    · exact h
    · rw [Array.getElem?_eq_none h] at hb; cases hb
  exact (h.block i hi hn).trans hb
theorem blk_size {w : World} {i : Nat} {o : Obj} (hb : w.heap[i]? = some o) : i < w.heap.size := by
  rcases Nat.lt_or_ge i w.heap.size with h | h
  · exact h
  · rw [Array.getElem?_eq_none h] at hb; cases hb
theorem Grow.old {S : Nat → Prop} {w w' : World} {i : Nat} (h : S i) : Grow S w w' i := .inl h
theorem Grow.trans {S : Nat → Prop} {w w1 w2 : World} (h1 : w.heap.size ≤ w1.heap.size) (h2 : w1.heap.size ≤ w2.heap.size) : ∀ i, Grow (Grow S w w1) w1 w2 i → Grow S w w2 i := by
  rintro i ((h | h) | h)
  · exact .inl h
  · exact .inr ⟨h.1, by omega⟩
  · exact .inr ⟨by omega, h.2⟩
theorem setCell_here {w : World} {p : Nat} {cs : Array Value} {t : Nat} {fr : Nat × Nat} (hb : w.heap[p]? = some (.cells cs t fr)) (j : Nat) (u : Value) : (w.setCell ⟨p, j, none⟩ u).heap[p]? = some (.cells (cs.setIfInBounds j u) t fr) := by
  simp [World.setCell, Array.getElem?_modify, hb]
theorem cell_of {w : World} {p : Nat} {cs : Array Value} {t : Nat} {fr : Nat × Nat} (hb : w.heap[p]? = some (.cells cs t fr)) (j : Nat) : w.cell? ⟨p, j, none⟩ = cs[j]? := by simp [World.cell?, hb]
theorem frozen_of {w : World} {p : Nat} {cs : Array Value} {t : Nat} (hb : w.heap[p]? = some (.cells cs t (0, 0))) (j : Nat) : w.frozen? ⟨p, j, none⟩ = false := by simp [World.frozen?, hb]
/-- A row of numbers that is read, in blocks of S. -/
structure Rk (k : IntKind) (w : World) (S : Nat → Prop) (A : Option Addr) (l : List Int) : Prop where
  row : Kd.C (Kd.int k) w A l.length l
  blk : 0 < l.length → ∀ a, A = some a → S a.block
abbrev Rb := Rk .u8
theorem C_cells {k : IntKind} {w : World} {A : Option Addr} {l : List Int} (h : Kd.C (Kd.int k) w A l.length l) (hl : 0 < l.length) : ∃ ad, A = some ad ∧ ∀ j, j < l.length → w.cell? (ad.add j) = some (.int k (rd l j)) := by
  obtain ⟨ad, e, _⟩ := Kd.at_int h 0 (by omega) (by omega)
  subst e
  exact ⟨ad, rfl, fun j hj => by have := Kd.foot_int h (j : Int) (by omega) (by omega); simpa using this⟩
theorem C_mk {k : IntKind} {w : World} {A : Option Addr} {l : List Int} (hm : l.length ≤ 9223372036854775807) (h : 0 < l.length → ∃ ad, A = some ad ∧ ∀ j, j < l.length → w.cell? (ad.add j) = some (.int k (rd l j))) : Kd.C (Kd.int k) w A l.length l := by
  refine ⟨rfl, hm, fun hp => ?_⟩
  obtain ⟨ad, e, hc⟩ := h hp
  refine ⟨ad, e, fun j p hj => ?_⟩
  have hlt : j < l.length := by
    rcases Nat.lt_or_ge j l.length with h | h
    · exact h
    · rw [List.getElem?_eq_none h] at hj; cases hj
  refine ⟨[.int k p], rfl, rfl, fun i u hu => ?_⟩
  rcases i with _ | i
  · simp only [List.getElem?_cons_zero, Option.some.injEq] at hu
    subst hu
    have := hc j hlt
    have e2 : rd l (j : Int) = p := by simp [rd, hj]
    rw [e2] at this
    simpa [Kd.int, Kd.scalar] using this
  · simp at hu
/-- What is read of cells stays where the cells stay. -/
theorem C_cells_mono {k : IntKind} {w w' : World} {A : Option Addr} {l : List Int} (h : Kd.C (Kd.int k) w A l.length l) (hc : ∀ ad j, A = some ad → j < l.length → w'.cell? (ad.add j) = w.cell? (ad.add j)) : Kd.C (Kd.int k) w' A l.length l :=
  C_mk h.2.1 (fun hp => by
    obtain ⟨ad, e, hx⟩ := C_cells h hp
    exact ⟨ad, e, fun j hj => (hc ad j e hj).trans (hx j hj)⟩)
theorem cell_same {w w' : World} {b : Nat} (h : w'.heap[b]? = w.heap[b]?) (a : Addr) (ha : a.block = b) : w'.cell? a = w.cell? a := by
  simp [World.cell?, ha, h]
theorem add_blk (a : Addr) (j : Nat) : (a.add j).block = a.block := add_block a j
theorem Rk.mono {k : IntKind} {w : World} {S T : Nat → Prop} {A : Option Addr} {l : List Int} (h : Rk k w S A l) (hS : ∀ i, S i → T i) : Rk k w T A l := ⟨h.row, fun hp a ha => hS _ (h.blk hp a ha)⟩
theorem Rk.lt {k : IntKind} {w : World} {S : Nat → Prop} {A : Option Addr} {l : List Int} (h : Rk k w S A l) (hl : 0 < l.length) : ∀ a, A = some a → a.block < w.heap.size := by
  intro a ha
  obtain ⟨ad, e, hx⟩ := C_cells h.row hl
  rw [ha] at e
  cases e
  have := World.block_lt_of_cell? w _ (hx 0 hl)
  rwa [add_blk] at this
theorem Rk.only {k : IntKind} {w w' : World} {S T : Nat → Prop} {A : Option Addr} {l : List Int} (h : Rk k w S A l) (o : Only w w' T) (hd : ∀ i, S i → ¬ T i) : Rk k w' S A l :=
  ⟨C_cells_mono h.row (fun ad j e hj => cell_same (o.block _ (h.lt (by omega) ad e) (hd _ (h.blk (by omega) ad e))) _ (add_blk ad j)), h.blk⟩
theorem Rk.below {k : IntKind} {w w' : World} {S : Nat → Prop} {A : Option Addr} {l : List Int} (h : Rk k w S A l) (o : Below w.heap.size w w') : Rk k w' S A l := h.only (Only.of_below o (fun _ => False)) (fun _ _ h => h)
theorem Rk.old {k : IntKind} {w0 w : World} {A : Option Addr} {l : List Int} (h : Rk k w0 (fun i => i < w0.heap.size) A l) (o : Below w0.heap.size w0 w) : Rk k w (fun i => i < w0.heap.size) A l :=
  ⟨Kd.C_below h.row o, h.blk⟩
theorem Rk.of_C {k : IntKind} {w : World} {A : Option Addr} {l : List Int} (h : Kd.C (Kd.int k) w A l.length l) : Rk k w (fun i => i < w.heap.size) A l :=
  ⟨h, fun hp a ha => by
    obtain ⟨ad, e, hx⟩ := C_cells h hp
    rw [ha] at e
    cases e
    have := World.block_lt_of_cell? w _ (hx 0 hp)
    rwa [add_blk] at this⟩
/-- An own row: its block is the row's. -/
theorem Rk.of_R {w : World} {B n c : Nat} {ok : Nat → Prop} {A : Option Addr} {l : List Int} (h : Kd.R (Kd.int .u8) 5 w B ok (.slice A n c) l) : Rb w ok A l :=
  ⟨(Kd.R_reads' h).2.2, fun _ a ha => h.1 a.block (by subst ha; rfl)⟩
theorem R_only {α : Type} {d : Kd α} {e : Nat} {w w' : World} {base : Nat} {ok T : Nat → Prop} {v : Value} {xs : List α} (h : d.R e w base ok v xs) (k : Only w w' T) (hd : ∀ i, ok i → ¬ T i) : d.R e w' base ok v xs := Kd.R_step h (fun i ho hi => k.block i hi (hd i ho))
theorem R_made_in {α : Type} {d : Kd α} {e : Nat} {w w' : World} {ok : Nat → Prop} {v : Value} {xs : List α} (h : d.R e w' w.heap.size ok v xs) : d.R e w' w.heap.size (fun i => w.heap.size ≤ i ∧ i < w'.heap.size) v xs := Kd.R_mono (Kd.R_bound h) (fun _ hk => ⟨hk.2.1, hk.2.2.1⟩)
theorem add_zero_ (a : Addr) : a.add 0 = a := by
  obtain ⟨b, o, s⟩ := a
  unfold Addr.add
  split <;> simp_all

end Go.Proofs.Ytibpbihcbgcedaa.Hp
