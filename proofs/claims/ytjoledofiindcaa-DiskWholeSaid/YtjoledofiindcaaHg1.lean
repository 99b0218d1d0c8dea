/- Contracts of functions of the given program, and what they lean on: written by this session's own program, out of hand texts laid into the kit's printer. -/
import Derived.Test.YtjoledofiindcaaHp0
import Derived.Laws.CopyOwn
import Derived.Laws.Cells
import Derived.Laws.StructEq
import Derived.Maps.Views
import Derived.Maps.Own
import Derived.LoopIn
import Derived.LoopNIn
import Derived.TacticsInMore
import Derived.OwnWalkIn
import Derived.Shelf.RegionOpen
import Derived.Shelf.Abstract
import Derived.RangeFuncLeaves
import Derived.RangeFuncCalls
import Derived.RangeFuncBound
import Derived.RangeFuncNested
import Derived.Deep.MidRow
namespace Go.Proofs.Ytjoledofiindcaa.Hp
open Go.RowKit Go.Proofs.YtjoledofiindcaaW.PrintWords Go.Proofs.YtjoledofiindcaaW.PrintLast Go.Proofs.YtjoledofiindcaaW.PrintMore
attribute [local go_sem] max2_int min2_int max_two min_two max_three min_three max_four min_four   -- for this text's walks alone
set_option linter.unusedVariables false
set_option linter.unusedSimpArgs false

-- AUX M
-- Words of this session: what a call may change (a set of blocks), and what stays.
/-- Only the blocks of S have changed; blocks were added. -/
structure Only (w w' : World) (S : Nat → Prop) : Prop where
  os : w'.os = w.os
  tape : w'.tape = w.tape
  output : w'.output = w.output
  size : w.heap.size ≤ w'.heap.size
  block : ∀ i, i < w.heap.size → ¬ S i → w'.heap[i]? = w.heap[i]?
/-- A set of blocks, and those that were added. -/
def Grow (S : Nat → Prop) (w w' : World) : Nat → Prop := fun i => S i ∨ (w.heap.size ≤ i ∧ i < w'.heap.size)
theorem Only.refl (w : World) (S : Nat → Prop) : Only w w S := ⟨rfl, rfl, rfl, Nat.le_refl _, fun _ _ _ => rfl⟩
theorem Only.mono {w w' : World} {S T : Nat → Prop} (h : Only w w' S) (hS : ∀ i, S i → T i) : Only w w' T := ⟨h.os, h.tape, h.output, h.size, fun i hi hn => h.block i hi (fun hs => hn (hS i hs))⟩
theorem Only.then_ {w w1 w2 : World} {S T : Nat → Prop} (h : Only w w1 S) (k : Only w1 w2 T) (hT : ∀ i, T i → S i ∨ w.heap.size ≤ i) : Only w w2 S :=
  ⟨k.os.trans h.os, k.tape.trans h.tape, k.output.trans h.output, Nat.le_trans h.size k.size, fun i hi hn => (k.block i (Nat.lt_of_lt_of_le hi h.size) (fun ht => (hT i ht).elim hn (fun hge => by omega))).trans (h.block i hi hn)⟩
theorem Only.trans {w w1 w2 : World} {S : Nat → Prop} (h : Only w w1 S) (k : Only w1 w2 (Grow S w w1)) : Only w w2 S := h.then_ k (fun _ hi => hi.imp id (fun h => h.1))
theorem Only.same {w w1 w2 : World} {S : Nat → Prop} (h : Only w w1 S) (k : Only w1 w2 S) : Only w w2 S := h.then_ k (fun _ hi => .inl hi)
theorem Only.of_below {w w' : World} (h : Below w.heap.size w w') (S : Nat → Prop) : Only w w' S := ⟨h.os, h.tape, h.output, h.size, fun i hi _ => h.block i hi⟩
theorem Only.below_ {w w1 w2 : World} {S : Nat → Prop} (h : Only w w1 S) (k : Below w1.heap.size w1 w2) : Only w w2 S := h.then_ (Only.of_below k (fun _ => False)) (fun _ hf => hf.elim)
theorem Only.below {w w' : World} {S : Nat → Prop} {B : Nat} (h : Only w w' S) (hS : ∀ i, S i → B ≤ i) (hB : B ≤ w.heap.size) : Below B w w' := ⟨h.os, h.tape, h.output, h.size, fun i hi => h.block i (by omega) (fun hs => by have := hS i hs; omega)⟩
theorem Only.of_grown {w w' : World} {row : Option Nat} {S : Nat → Prop} (hg : w.grownBy w' row) (hS : ∀ k, row = some k → S k) : Only w w' S := ⟨hg.os, hg.tape, hg.output, hg.size, fun i hi hn => hg.block i hi (fun h => hn (hS i h.symm))⟩
theorem Only.setCell {w w' : World} {S : Nat → Prop} (h : Only w w' S) {p : Addr} (hp : S p.block ∨ w.heap.size ≤ p.block) (u : Value) : Only w (w'.setCell p u) S :=
  ⟨h.os, h.tape, h.output, by have := h.size; simp only [World.setCell, Array.size_modify]; exact this, fun i hi hn => (Below.heap_setCell w' p u i (fun e => by subst e; exact hp.elim hn (fun hge => by omega))).trans (h.block i hi hn)⟩
theorem Only.alloc {w w' : World} {S : Nat → Prop} (h : Only w w' S) (o : Obj) : Only w (w'.alloc o) S := h.below_ (below_alloc (Below.refl _ _) o)
theorem Only.drewN {w w' : World} {S : Nat → Prop} (h : Only w w' S) (n : Nat) : Only w (w'.drewN n) S := h.below_ (pw_below_drewN (Below.refl _ _) n)
theorem Only.drew {w w' : World} {S : Nat → Prop} (h : Only w w' S) : Only w w'.drew S := h.below_ (below_drew (Below.refl _ _))
theorem Only.same_block {w w' : World} {S : Nat → Prop} (h : Only w w' S) {i : Nat} {o : Obj} (hb : w.heap[i]? = some o) (hn : ¬ S i) : w'.heap[i]? = some o := by
  have hi : i < w.heap.size := by
    rcases Nat.lt_or_ge i w.heap.size with h | h
    · exact h
    · rw [Array.getElem?_eq_none h] at hb; cases hb
  exact (h.block i hi hn).trans hb
theorem blk_size {w : World} {i : Nat} {o : Obj} (hb : w.heap[i]? = some o) : i < w.heap.size := by
  rcases Nat.lt_or_ge i w.heap.size with h | h
  · exact h
  · rw [Array.getElem?_eq_none h] at hb; cases hb
theorem Grow.old {S : Nat → Prop} {w w' : World} {i : Nat} (h : S i) : Grow S w w' i := .inl h
theorem Grow.trans {S : Nat → Prop} {w w1 w2 : World} (h1 : w.heap.size ≤ w1.heap.size) (h2 : w1.heap.size ≤ w2.heap.size) : ∀ i, Grow (Grow S w w1) w1 w2 i → Grow S w w2 i := by
  rintro i ((h | h) | h)
  · exact .inl h
  · exact .inr ⟨h.1, by omega⟩
  · exact .inr ⟨by omega, h.2⟩
theorem setCell_here {w : World} {p : Nat} {cs : Array Value} {t : Nat} {fr : Nat × Nat} (hb : w.heap[p]? = some (.cells cs t fr)) (j : Nat) (u : Value) : (w.setCell ⟨p, j, none⟩ u).heap[p]? = some (.cells (cs.setIfInBounds j u) t fr) := by
  simp [World.setCell, Array.getElem?_modify, hb]
theorem cell_of {w : World} {p : Nat} {cs : Array Value} {t : Nat} {fr : Nat × Nat} (hb : w.heap[p]? = some (.cells cs t fr)) (j : Nat) : w.cell? ⟨p, j, none⟩ = cs[j]? := by simp [World.cell?, hb]
theorem frozen_of {w : World} {p : Nat} {cs : Array Value} {t : Nat} (hb : w.heap[p]? = some (.cells cs t (0, 0))) (j : Nat) : w.frozen? ⟨p, j, none⟩ = false := by simp [World.frozen?, hb]
/-- A row of numbers that is read, in blocks of S. -/
structure Rk (k : IntKind) (w : World) (S : Nat → Prop) (A : Option Addr) (l : List Int) : Prop where
  row : Kd.C (Kd.int k) w A l.length l
  blk : 0 < l.length → ∀ a, A = some a → S a.block
abbrev Rb := Rk .u8
theorem C_cells {k : IntKind} {w : World} {A : Option Addr} {l : List Int} (h : Kd.C (Kd.int k) w A l.length l) (hl : 0 < l.length) : ∃ ad, A = some ad ∧ ∀ j, j < l.length → w.cell? (ad.add j) = some (.int k (rd l j)) := by
  obtain ⟨ad, e, _⟩ := Kd.at_int h 0 (by omega) (by omega)
  subst e
  exact ⟨ad, rfl, fun j hj => by have := Kd.foot_int h (j : Int) (by omega) (by omega); simpa using this⟩
theorem C_mk {k : IntKind} {w : World} {A : Option Addr} {l : List Int} (hm : l.length ≤ 9223372036854775807) (h : 0 < l.length → ∃ ad, A = some ad ∧ ∀ j, j < l.length → w.cell? (ad.add j) = some (.int k (rd l j))) : Kd.C (Kd.int k) w A l.length l := by
  refine ⟨rfl, hm, fun hp => ?_⟩
  obtain ⟨ad, e, hc⟩ := h hp
  refine ⟨ad, e, fun j p hj => ?_⟩
  have hlt : j < l.length := by
    rcases Nat.lt_or_ge j l.length with h | h
    · exact h
    · rw [List.getElem?_eq_none h] at hj; cases hj
  refine ⟨[.int k p], rfl, rfl, fun i u hu => ?_⟩
  rcases i with _ | i
  · simp only [List.getElem?_cons_zero, Option.some.injEq] at hu
    subst hu
    have := hc j hlt
    have e2 : rd l (j : Int) = p := by simp [rd, hj]
    rw [e2] at this
    simpa [Kd.int, Kd.scalar] using this
  · simp at hu
/-- What is read of cells stays where the cells stay. -/
theorem C_cells_mono {k : IntKind} {w w' : World} {A : Option Addr} {l : List Int} (h : Kd.C (Kd.int k) w A l.length l) (hc : ∀ ad j, A = some ad → j < l.length → w'.cell? (ad.add j) = w.cell? (ad.add j)) : Kd.C (Kd.int k) w' A l.length l :=
  C_mk h.2.1 (fun hp => by
    obtain ⟨ad, e, hx⟩ := C_cells h hp
    exact ⟨ad, e, fun j hj => (hc ad j e hj).trans (hx j hj)⟩)
theorem cell_same {w w' : World} {b : Nat} (h : w'.heap[b]? = w.heap[b]?) (a : Addr) (ha : a.block = b) : w'.cell? a = w.cell? a := by
  simp [World.cell?, ha, h]
theorem add_blk (a : Addr) (j : Nat) : (a.add j).block = a.block := add_block a j
theorem Rk.mono {k : IntKind} {w : World} {S T : Nat → Prop} {A : Option Addr} {l : List Int} (h : Rk k w S A l) (hS : ∀ i, S i → T i) : Rk k w T A l := ⟨h.row, fun hp a ha => hS _ (h.blk hp a ha)⟩
theorem Rk.lt {k : IntKind} {w : World} {S : Nat → Prop} {A : Option Addr} {l : List Int} (h : Rk k w S A l) (hl : 0 < l.length) : ∀ a, A = some a → a.block < w.heap.size := by
  intro a ha
  obtain ⟨ad, e, hx⟩ := C_cells h.row hl
  rw [ha] at e
  cases e
  have := World.block_lt_of_cell? w _ (hx 0 hl)
  rwa [add_blk] at this
theorem Rk.only {k : IntKind} {w w' : World} {S T : Nat → Prop} {A : Option Addr} {l : List Int} (h : Rk k w S A l) (o : Only w w' T) (hd : ∀ i, S i → ¬ T i) : Rk k w' S A l :=
  ⟨C_cells_mono h.row (fun ad j e hj => cell_same (o.block _ (h.lt (by omega) ad e) (hd _ (h.blk (by omega) ad e))) _ (add_blk ad j)), h.blk⟩
theorem Rk.below {k : IntKind} {w w' : World} {S : Nat → Prop} {A : Option Addr} {l : List Int} (h : Rk k w S A l) (o : Below w.heap.size w w') : Rk k w' S A l := h.only (Only.of_below o (fun _ => False)) (fun _ _ h => h)
theorem Rk.old {k : IntKind} {w0 w : World} {A : Option Addr} {l : List Int} (h : Rk k w0 (fun i => i < w0.heap.size) A l) (o : Below w0.heap.size w0 w) : Rk k w (fun i => i < w0.heap.size) A l :=
  ⟨Kd.C_below h.row o, h.blk⟩
theorem Rk.of_C {k : IntKind} {w : World} {A : Option Addr} {l : List Int} (h : Kd.C (Kd.int k) w A l.length l) : Rk k w (fun i => i < w.heap.size) A l :=
  ⟨h, fun hp a ha => by
    obtain ⟨ad, e, hx⟩ := C_cells h hp
    rw [ha] at e
    cases e
    have := World.block_lt_of_cell? w _ (hx 0 hp)
    rwa [add_blk] at this⟩
/-- An own row: its block is the row's. -/
theorem Rk.of_R {w : World} {B n c : Nat} {ok : Nat → Prop} {A : Option Addr} {l : List Int} (h : Kd.R (Kd.int .u8) 5 w B ok (.slice A n c) l) : Rb w ok A l :=
  ⟨(Kd.R_reads' h).2.2, fun _ a ha => h.1 a.block (by subst ha; rfl)⟩
theorem R_only {α : Type} {d : Kd α} {e : Nat} {w w' : World} {base : Nat} {ok T : Nat → Prop} {v : Value} {xs : List α} (h : d.R e w base ok v xs) (k : Only w w' T) (hd : ∀ i, ok i → ¬ T i) : d.R e w' base ok v xs := Kd.R_step h (fun i ho hi => k.block i hi (hd i ho))
theorem R_made_in {α : Type} {d : Kd α} {e : Nat} {w w' : World} {ok : Nat → Prop} {v : Value} {xs : List α} (h : d.R e w' w.heap.size ok v xs) : d.R e w' w.heap.size (fun i => w.heap.size ≤ i ∧ i < w'.heap.size) v xs := Kd.R_mono (Kd.R_bound h) (fun _ hk => ⟨hk.2.1, hk.2.2.1⟩)
theorem add_zero_ (a : Addr) : a.add 0 = a := by
  obtain ⟨b, o, s⟩ := a
  unfold Addr.add
  split <;> simp_all
/-- append(v, x), x of several cells, as an equation of the run: for regions that draw their order. -/
theorem R_append_run {α : Type} (d : Kd α) {P : Program} {w0 W : World} (base : Nat) (t e ty : TypeId) (z : Value) (bytes : Nat)
    (ht : P.underlying t = some (.slice e)) (hinfo : (P.info? e).map (fun i => (i.zero, i.size, i.bytes)) = some (some z, d.sz, bytes)) (hz : z.cells.size = d.sz) (hs0 : 0 < d.sz) (hb0 : 0 < bytes)
    (v : Value) (xs : List α) (p : α) (cs : List Value) (ok okp : Nat → Prop) (hp : d.M W base okp p cs) (hokp : ∀ k, okp k → ok k ∧ some k ≠ v.ownBlock) (hfresh : ∀ k, W.heap.size ≤ k → ok k)
    (HO : d.R e W base ok v xs) (HB : Below base w0 W) (hbase : base ≤ W.heap.size) (hl : (xs.length + 1) * bytes ≤ 140737488355328) :
    ∃ v1 w1, (Builtin.append_ #[t, t] ty #[v, .slice (some ⟨W.heap.size, 0, none⟩) 1 1]).run P (W.alloc (.cells cs.toArray e)) = .ok v1 w1 ∧ d.R e w1 base ok v1 (xs ++ [p]) ∧ Below base w0 w1 ∧ W.grownBy w1 v.ownBlock ∧ (v1.ownBlock = v.ownBlock ∨ ∃ b, v1.ownBlock = some b ∧ W.heap.size ≤ b) := by
  obtain ⟨h0, inner, hown, hr⟩ := HO
  obtain ⟨i0, hi, hzz⟩ := Option.map_eq_some_iff.1 hinfo
  simp only [Prod.mk.injEq] at hzz
  obtain ⟨hz0, hz1, hz2⟩ := hzz
  have hlen : xs.length + 1 ≤ 140737488355328 := Nat.le_trans (Nat.le_mul_of_pos_right _ hb0) hl
  have hcl : cs.length = d.sz := d.K_len (d.K_of_M hp)
  obtain ⟨v1, w1, hrun, hown1, hg, -, hat⟩ := run_append_own_at (P := P) (W.alloc (.cells cs.toArray e)) base t ty e i0 z d.sz bytes ht hi hz0 hz1 hz2 hz hs0 v xs.length inner (hown.alloc _) ⟨W.heap.size, 0, none⟩ 1 1 cs (by rw [hcl]; simp)
    (by simpa using World.news_of_block (cs := cs.toArray) (t := e) (fr := (0, 0)) (heap_alloc_new W (.cells cs.toArray e))) (d.K_one (d.K_of_M hp)) (by simp only [maxLen]; omega) hl (by simp; omega)
  have hg2 := World.grownBy.trans (World.grownBy_alloc W (.cells cs.toArray e) _) hg
  have hat2 : v1.ownBlock = v.ownBlock ∨ ∃ b, v1.ownBlock = some b ∧ W.heap.size ≤ b := hat.imp id (fun h => ⟨_, h, by simp⟩)
  exact ⟨v1, w1, hrun, Kd.R_appended h0 hr hp hokp hfresh hown1 hg2 hat2, (HB.alloc hbase _).grown hg (by simp; omega) (own_base hown), hg2, hat2⟩
theorem S_append_run {α : Type} (d : Kd α) {P : Program} {w0 W : World} (base : Nat) (t e ty : TypeId) (z : Value) (bytes : Nat)
    (ht : P.underlying t = some (.slice e)) (hinfo : (P.info? e).map (fun i => (i.zero, i.size, i.bytes)) = some (some z, d.sz, bytes)) (hz : z.cells.size = d.sz) (hs0 : 0 < d.sz) (hb0 : 0 < bytes)
    (v : Value) (xs : List α) (p : α) (cs : List Value) (ok okp : Nat → Prop) (hp : d.M W base okp p cs) (hokp : ∀ k, okp k → ok k ∧ some k ≠ v.ownBlock) (hfresh : ∀ k, W.heap.size ≤ k → ok k)
    (HO : Kd.S d e W base (fun k => ok k ∧ ¬ okp k) v xs) (HB : Below base w0 W) (hbase : base ≤ W.heap.size) (hl : (xs.length + 1) * bytes ≤ 140737488355328) :
    ∃ v1 w1, (Builtin.append_ #[t, t] ty #[v, .slice (some ⟨W.heap.size, 0, none⟩) 1 1]).run P (W.alloc (.cells cs.toArray e)) = .ok v1 w1 ∧ Kd.S d e w1 base ok v1 (xs ++ [p]) ∧ Below base w0 w1 ∧ W.grownBy w1 v.ownBlock ∧ (v1.ownBlock = v.ownBlock ∨ ∃ b, v1.ownBlock = some b ∧ W.heap.size ≤ b) := by
  obtain ⟨f, hf, hR⟩ := Kd.S_tag HO xs.length okp (fun _ hk h2 => h2.2 hk)
  obtain ⟨v1, w1, hrun, hr, h⟩ := R_append_run (Kd.tag f d) (w0 := w0) base t e ty z bytes ht hinfo hz hs0 hb0 v xs.zipIdx (p, xs.length) cs ok okp (d.M_mono (fun k hk => ⟨hk, hf k hk⟩) hp) hokp hfresh (Kd.R_mono hR (fun _ hk => hk.1)) HB hbase (by rw [List.length_zipIdx]; exact hl)
  rw [← Kd.zip_snoc] at hr
  exact ⟨v1, w1, hrun, ⟨f, hr⟩, h⟩

-- AUX C0
-- Words of this session for texts walked by hand: bounds of numbers, blocks that are read as rows.
theorem wf_i64 {n : Int} (h : (Lit.int .i64 n).wf = true) : -9223372036854775808 ≤ n ∧ n ≤ 9223372036854775807 := by
  simp [Lit.wf, IntKind.min, IntKind.max, IntKind.signed, IntKind.bits] at h
  omega
theorem wf_u32 {n : Int} (h : (Lit.int .u32 n).wf = true) : 0 ≤ n ∧ n < 4294967296 := by
  simp [Lit.wf, IntKind.min, IntKind.max, IntKind.signed, IntKind.bits] at h
  omega
theorem wf_u8 {n : Int} (h : (Lit.int .u8 n).wf = true) : 0 ≤ n ∧ n < 256 := by
  simp [Lit.wf, IntKind.min, IntKind.max, IntKind.signed, IntKind.bits] at h
  omega
theorem wfs_u8 {l : List Int} (h : ∀ n ∈ l, (Lit.int .u8 n).wf = true) : ∀ n ∈ l, 0 ≤ n ∧ n < 256 := fun n hn => wf_u8 (h n hn)
/-- A block whose cells are read as a row of elements of one cell each. -/
theorem C_block {α : Type} (d : Kd α) (h1 : d.sz = 1) {w : World} {g : Nat} {cs : Array Value} {e : Nat} {fr : Nat × Nat} (hb : w.heap[g]? = some (.cells cs e fr)) (xs : List α) (hl : xs.length ≤ 9223372036854775807)
    (hK : ∀ (j : Nat) (x : α), xs[j]? = some x → ∃ v, cs[j]? = some v ∧ d.K w x [v]) : d.C w (some ⟨g, 0, none⟩) xs.length xs := by
  refine ⟨rfl, hl, fun _ => ⟨_, rfl, fun j p hj => ?_⟩⟩
  obtain ⟨v, hv, hk⟩ := hK j p hj
  refine ⟨[v], by rw [h1]; rfl, hk, fun i u hu => ?_⟩
  rcases i with _ | i
  · simp only [List.getElem?_cons_zero, Option.some.injEq] at hu
    subst hu
    rw [h1, Nat.mul_one, Nat.add_zero, add_plain]
    simp [World.cell?, hb, hv]
  · simp at hu
/-- An element of a row of rows of bytes. -/
theorem C_elem {k : IntKind} {e n : Nat} {w : World} {A : Option Addr} {ls : List (List Int)} (h : Kd.C (Kd.slice e (Kd.int k)) w A n ls) (i : Nat) (hi : i < ls.length) :
    ∃ (ad : Addr) (A' : Option Addr) (c' : Nat), A = some ad ∧ w.cell? (ad.add i) = some (.slice A' (ls[i]).length c') ∧ (ls[i]).length ≤ c' ∧ Kd.C (Kd.int k) w A' (ls[i]).length ls[i] := by
  have hn := h.1
  obtain ⟨ad, cs, e, hl, hk, hc⟩ := ReadsRow.get_ h [] (i : Int) (by omega) (by omega)
  obtain ⟨A', c', rfl, hl', hC⟩ := hk
  have := hc 0 _ rfl
  simp only [Int.toNat_natCast, Kd.slice, Nat.mul_one, Nat.add_zero] at this
  have eq : ls.getD ((i : Int).toNat) [] = ls[i] := by simp [hi]
  simp only [Int.toNat_natCast] at eq hl' hC
  rw [eq] at this hl' hC
  exact ⟨ad, A', c', e, this, hl', hC⟩

-- AUX X
-- Words of this session: what is known of memory, part by part ('Cx'): parts that share no block, all made since a world w0; what was there at w0 is as it was.
/-- How a thing lies in memory: behind a value v, in blocks of S alone. -/
structure Repr (α : Type) where
  R : World → (Nat → Prop) → Value → α → Prop
  st : ∀ {w w' : World} {S T : Nat → Prop} {v : Value} {x : α}, R w S v x → Only w w' T → (∀ i, S i → ¬ T i) → R w' S v x
/-- A part of memory: a block known whole; a thing. -/
inductive Asr : Type 1 where
  | blk (b : Nat) (o : Obj)
  | own {α : Type} (R : Repr α) (v : Value) (x : α)
def Asr.P (w : World) (S : Nat → Prop) : Asr → Prop
  | .blk b o => S b ∧ w.heap[b]? = some o
  | .own R v x => R.R w S v x
theorem Asr.only {a : Asr} {w w' : World} {S T : Nat → Prop} (h : a.P w S) (k : Only w w' T) (hd : ∀ i, S i → ¬ T i) : a.P w' S := by
  cases a with
  | blk b o => exact ⟨h.1, k.same_block h.2 (hd _ h.1)⟩
  | own R v x => exact R.st h k hd
def Sep (w : World) : List Asr → (Nat → Prop) → Prop
  | [], _ => True
  | a :: l, T => ∃ S : Nat → Prop, a.P w S ∧ (∀ i, S i → T i) ∧ Sep w l (fun i => T i ∧ ¬ S i)
theorem Sep.mono {w : World} : ∀ {l : List Asr} {T U : Nat → Prop}, Sep w l T → (∀ i, T i → U i) → Sep w l U
  | [], _, _, _, _ => trivial
  | _ :: _, _, _, ⟨S, h, hs, hr⟩, hu => ⟨S, h, fun i hi => hu i (hs i hi), hr.mono (fun i hi => ⟨hu i hi.1, hi.2⟩)⟩
theorem Sep.only {w w' : World} {V : Nat → Prop} (k : Only w w' V) : ∀ {l : List Asr} {T : Nat → Prop}, Sep w l T → (∀ i, T i → ¬ V i) → Sep w' l T
  | [], _, _, _ => trivial
  | _ :: _, _, ⟨S, h, hs, hr⟩, hd => ⟨S, Asr.only h k (fun i hi => hd i (hs i hi)), hs, Sep.only k hr (fun i hi => hd i hi.1)⟩
/-- a is one of m; r are the others. -/
inductive At : List Asr → Asr → List Asr → Prop where
  | here {a : Asr} {l : List Asr} : At (a :: l) a l
  | there {a b : Asr} {l r : List Asr} (h : At l a r) : At (b :: l) a (b :: r)
theorem Sep.find {w : World} {m : List Asr} {a : Asr} {r : List Asr} (h : At m a r) : ∀ {T : Nat → Prop}, Sep w m T → Sep w (a :: r) T := by
  induction h with
  | here => exact fun h => h
  | there _ ih =>
    rintro T ⟨S, hb, hs, hr⟩
    obtain ⟨S2, ha, hs2, hr2⟩ := ih hr
    exact ⟨S2, ha, fun i hi => (hs2 i hi).1, S, hb, fun i hi => ⟨hs i hi, fun h2 => (hs2 i h2).2 hi⟩, hr2.mono (fun i hi => ⟨⟨hi.1.1, hi.2⟩, hi.1.2⟩)⟩
theorem Sep.append {w : World} {T : Nat → Prop} : ∀ {n m : List Asr} {U : Nat → Prop}, Sep w n U → Sep w m T → (∀ i, U i → ¬ T i) → Sep w (n ++ m) (fun i => U i ∨ T i)
  | [], _, _, _, hm, _ => hm.mono (fun _ h => .inr h)
  | a :: n, m, U, ⟨S, ha, hs, hr⟩, hm, hd => ⟨S, ha, fun i hi => .inl (hs i hi), (Sep.append hr hm (fun i hi => hd i hi.1)).mono (fun i hi => by
      rcases hi with hi | hi
      · exact ⟨.inl hi.1, hi.2⟩
      · exact ⟨.inr hi, fun h2 => hd i (hs i h2) hi⟩)⟩
theorem Sep.split {w : World} : ∀ {n m : List Asr} {T : Nat → Prop}, Sep w (n ++ m) T → ∃ U V : Nat → Prop, Sep w n U ∧ Sep w m V ∧ (∀ i, U i → T i) ∧ (∀ i, V i → T i) ∧ ∀ i, U i → ¬ V i
  | [], m, T, h => ⟨fun _ => False, T, trivial, h, fun _ h => h.elim, fun _ h => h, fun _ h => h.elim⟩
  | a :: n, m, T, ⟨S, ha, hs, hr⟩ => by
    obtain ⟨U, V, h1, h2, h3, h4, h5⟩ := Sep.split hr
    refine ⟨fun i => S i ∨ U i, V, ⟨S, ha, fun _ h => .inl h, h1.mono (fun i hi => ⟨.inr hi, (h3 i hi).2⟩)⟩, h2, fun i hi => hi.elim (hs i) (fun h => (h3 i h).1), fun i hi => (h4 i hi).1, fun i hi hv => ?_⟩
    rcases hi with hi | hi
    · exact (h4 i hv).2 hi
    · exact h5 i hi hv
/-- Since w0 (of B blocks) nothing of its blocks has changed; the parts m were made since. -/
structure Cx (B : Nat) (w0 w : World) (m : List Asr) : Prop where
  bel : Below B w0 w
  le : B ≤ w.heap.size
  sep : Sep w m (fun i => B ≤ i ∧ i < w.heap.size)
/-- The same with the heap's size written out: to read a world that stands as it was made. -/
structure CxS (B : Nat) (w0 w : World) (n : Nat) (m : List Asr) : Prop where
  cx : Cx B w0 w m
  sz : w.heap.size = n
theorem Cx.toS {B : Nat} {w0 w : World} {m : List Asr} (h : Cx B w0 w m) : CxS B w0 w w.heap.size m := ⟨h, rfl⟩
theorem Cx.start (w : World) : Cx w.heap.size w w [] := ⟨Below.refl _ _, Nat.le_refl _, trivial⟩
theorem Cx.below {B : Nat} {w0 w w' : World} {m : List Asr} (h : Cx B w0 w m) (k : Below w.heap.size w w') : Cx B w0 w' m :=
  ⟨below_then h.bel h.le k, by have := k.size; have := h.le; omega, (h.sep.only (Only.of_below k (fun _ => False)) (fun _ _ h => h)).mono (fun i hi => ⟨hi.1, by have := k.size; omega⟩)⟩
/-- A call that made parts of its own. -/
theorem Cx.join {B : Nat} {w0 w w' : World} {m n : List Asr} (h : Cx B w0 w m) (k : Cx w.heap.size w w' n) : Cx B w0 w' (n ++ m) :=
  ⟨below_then h.bel h.le k.bel, by have := k.le; have := h.le; omega, (k.sep.append (h.sep.only (Only.of_below k.bel (fun _ => False)) (fun _ _ h => h)) (fun i hi h2 => by have := hi.1; have := h2.2; omega)).mono (fun i hi => by
    have h1 := h.le
    have h2 := k.le
    rcases hi with hi | hi
    · exact ⟨by have := hi.1; omega, hi.2⟩
    · exact ⟨hi.1, by have := hi.2; omega⟩)⟩
theorem Cx.find {B : Nat} {w0 w : World} {m r : List Asr} {a : Asr} (h : Cx B w0 w m) (k : At m a r) : Cx B w0 w (a :: r) := ⟨h.bel, h.le, h.sep.find k⟩
theorem Cx.tail {B : Nat} {w0 w : World} {m : List Asr} {a : Asr} (h : Cx B w0 w (a :: m)) : Cx B w0 w m := by
  obtain ⟨S, _, _, hr⟩ := h.sep
  exact ⟨h.bel, h.le, hr.mono (fun _ hi => hi.1)⟩
theorem Cx.drop {B : Nat} {w0 w : World} {m r : List Asr} {a : Asr} (h : Cx B w0 w m) (k : At m a r) : Cx B w0 w r := (h.find k).tail
/-- The part at the front is taken out, and may be put back changed. -/
theorem Cx.open_ {B : Nat} {w0 w : World} {m : List Asr} {a : Asr} (h : Cx B w0 w (a :: m)) :
    ∃ S : Nat → Prop, a.P w S ∧ (∀ i, S i → B ≤ i ∧ i < w.heap.size) ∧ Sep w m (fun i => (B ≤ i ∧ i < w.heap.size) ∧ ¬ S i) ∧ ∀ w' n, Only w w' S → Sep w' n (Grow S w w') → Cx B w0 w' (n ++ m) := by
  obtain ⟨S, ha, hs, hr⟩ := h.sep
  have hle := h.le
  refine ⟨S, ha, hs, hr, fun w' n ho hn => ?_⟩
  have hsz := ho.size
  refine ⟨h.bel.trans (ho.below (B := B) (fun i hi => (hs i hi).1) h.le), by omega, ?_⟩
  refine (hn.append (hr.only ho (fun i hi => hi.2)) (fun i hi h2 => ?_)).mono (fun i hi => ?_)
  · rcases hi with hi | hi
    · exact h2.2 hi
    · have := h2.1.2; have := hi.1; omega
  · rcases hi with (hi | hi) | hi
    · have := hs i hi; omega
    · omega
    · have := hi.1; omega
theorem Cx.ret {B : Nat} {w0 w : World} {m : List Asr} (h : Cx B w0 w m) : Below B w0 w := h.bel
theorem Cx.blk {B : Nat} {w0 w : World} {m r : List Asr} {b : Nat} {o : Obj} (h : Cx B w0 w m) (k : At m (.blk b o) r) : w.heap[b]? = some o := by
  obtain ⟨S, ha, _⟩ := (h.find k).sep
  exact ha.2
theorem Cx.has {B : Nat} {w0 w : World} {m r : List Asr} {α : Type} {R : Repr α} {v : Value} {x : α} (h : Cx B w0 w m) (k : At m (.own R v x) r) : ∃ S : Nat → Prop, R.R w S v x ∧ ∀ i, S i → B ≤ i ∧ i < w.heap.size := by
  obtain ⟨S, ha, hs, _⟩ := (h.find k).sep
  exact ⟨S, ha, hs⟩
/-- Two parts at once. -/
theorem Cx.has2 {B : Nat} {w0 w : World} {m r r2 : List Asr} {α β : Type} {R : Repr α} {v : Value} {x : α} {R2 : Repr β} {v2 : Value} {x2 : β} (h : Cx B w0 w m) (k : At m (.own R v x) r) (k2 : At r (.own R2 v2 x2) r2) :
    ∃ S T : Nat → Prop, R.R w S v x ∧ R2.R w T v2 x2 ∧ (∀ i, S i → B ≤ i ∧ i < w.heap.size) ∧ (∀ i, T i → B ≤ i ∧ i < w.heap.size) ∧ ∀ i, T i → ¬ S i := by
  obtain ⟨S, ha, hs, hr⟩ := (h.find k).sep
  obtain ⟨T, hb, ht, _⟩ := hr.find k2
  exact ⟨S, T, ha, hb, hs, fun i hi => (ht i hi).1, fun i hi => (ht i hi).2⟩
theorem CxS.drewN {B : Nat} {w0 w : World} {n : Nat} {m : List Asr} (h : CxS B w0 w n m) (k : Nat) : CxS B w0 (w.drewN k) n m := ⟨h.cx.below (pw_below_drewN (Below.refl _ _) k), h.sz⟩
theorem CxS.drew {B : Nat} {w0 w : World} {n : Nat} {m : List Asr} (h : CxS B w0 w n m) : CxS B w0 w.drew n m := ⟨h.cx.below (below_drew (Below.refl _ _)), h.sz⟩
theorem CxS.alloc {B : Nat} {w0 w : World} {n : Nat} {m : List Asr} (h : CxS B w0 w n m) (o : Obj) : CxS B w0 (w.alloc o) (n + 1) (.blk n o :: m) := by
  obtain ⟨h, rfl⟩ := h
  exact ⟨h.join (n := [.blk w.heap.size o]) ⟨below_alloc (Below.refl _ _) o, by simp, ⟨fun i => i = w.heap.size, ⟨rfl, blk_new w o⟩, fun i hi => by subst hi; simp, trivial⟩⟩, by simp⟩
theorem CxS.set {B : Nat} {w0 w : World} {n : Nat} {m r : List Asr} {b t : Nat} {cs : Array Value} (h : CxS B w0 w n m) (k : At m (.blk b (.cells cs t (0, 0))) r) (j : Nat) (u : Value) :
    CxS B w0 (w.setCell ⟨b, j, none⟩ u) n (.blk b (.cells (cs.setIfInBounds j u) t (0, 0)) :: r) := by
  obtain ⟨h, rfl⟩ := h
  have hsz : (w.setCell ⟨b, j, none⟩ u).heap.size = w.heap.size := by simp [World.setCell]
  obtain ⟨S, ha, hs, hr, hc⟩ := (h.find k).open_
  exact ⟨hc _ [.blk b (.cells (cs.setIfInBounds j u) t (0, 0))] ((Only.refl w S).setCell (p := ⟨b, j, none⟩) (.inl ha.1) u) ⟨fun i => i = b, ⟨rfl, setCell_here ha.2 j u⟩, fun i hi => .inl (by subst hi; exact ha.1), trivial⟩, hsz⟩
/-- A cell of a block that doesn't stand whole: a part 'own' keeps what it is. -/
theorem Cx.put {B : Nat} {w0 w w' : World} {m r n : List Asr} {a : Asr} (h : Cx B w0 w m) (k : At m a r) (f : ∀ S : Nat → Prop, a.P w S → Only w w' S ∧ Sep w' n (Grow S w w')) : Cx B w0 w' (n ++ r) := by
  obtain ⟨S, ha, hs, hr, hc⟩ := (h.find k).open_
  obtain ⟨h1, h2⟩ := f S ha
  exact hc w' n h1 h2
theorem Cx.atCall {B : Nat} {w0 T : World} {n : Nat} {m : List Asr} {P : Program} {f : FuncId} {args : Array Value} {Q : Ending → World → Prop} (h : CxS B w0 T n m) (k : Cx B w0 T m → Calls P f args T Q) : Calls P f args T Q := k h.cx
theorem Cx.atCode {B : Nat} {w0 T : World} {n : Nat} {m : List Asr} {P : Program} {c : Code} {Q : Exit → Act → World → Prop} {a : Act} (h : CxS B w0 T n m) (k : Cx B w0 T m → Code.wp P c Q a T) : Code.wp P c Q a T := k h.cx
/-- The cells of a block known whole. -/
def cellsAre (w : World) (b : Nat) : List Value → Nat → Prop
  | [], _ => True
  | v :: l, j => w.cell? ⟨b, j, none⟩ = some v ∧ w.frozen? ⟨b, j, none⟩ = false ∧ cellsAre w b l (j + 1)
theorem cellsAre_of {w : World} {b t : Nat} {cs : Array Value} (h : w.heap[b]? = some (.cells cs t (0, 0))) : ∀ (l : List Value) (j : Nat), (∀ i v, l[i]? = some v → cs[j + i]? = some v) → cellsAre w b l j
  | [], _, _ => trivial
  | v :: l, j, hl => ⟨(cell_of h j).trans (hl 0 v rfl), frozen_of h j, cellsAre_of h l (j + 1) (fun i u hu => by rw [show j + 1 + i = j + (i + 1) by omega]; exact hl (i + 1) u hu)⟩
/-- What the walk reads: the cells of the blocks that are known whole. -/
def blkFacts (w : World) (b : Nat) : Obj → Prop
  | .cells cs _ fr => b < w.heap.size ∧ (fr = (0, 0) → cellsAre w b cs.toList 0)
  | _ => b < w.heap.size
def Asr.facts (w : World) : Asr → Prop
  | .blk b o => blkFacts w b o
  | .own _ _ _ => True
def factsOf (w : World) : List Asr → Prop
  | [] => True
  | a :: l => a.facts w ∧ factsOf w l
theorem Asr.facts_of {w : World} {S : Nat → Prop} {a : Asr} (h : a.P w S) : a.facts w := by
  rcases a with ⟨b, o⟩ | ⟨R, v, x⟩
  · rcases o with ⟨cs, t, fr⟩ | _ | _ | _ | _ | _ | _ | _ | _ | _ | _ | _
    · exact ⟨blk_lt h.2, fun e => by subst e; exact cellsAre_of h.2 _ 0 (fun i v hv => by simpa using hv)⟩
    all_goals exact blk_lt h.2
  · trivial
theorem Sep.facts {w : World} : ∀ {m : List Asr} {T : Nat → Prop}, Sep w m T → factsOf w m
  | [], _, _ => trivial
  | _ :: _, _, ⟨_, ha, _, hr⟩ => ⟨Asr.facts_of ha, Sep.facts hr⟩
theorem Cx.facts {B : Nat} {w0 w : World} {m : List Asr} (h : Cx B w0 w m) : factsOf w m := h.sep.facts
theorem Only.setRow_ {w : World} {S : Nat → Prop} {g : Nat} (hg : S g) (cs : Array Value) : Only w (w.setRow g cs) S :=
  ⟨rfl, rfl, rfl, by simp [World.setRow], fun k _ hk => setRow_other w g k cs (fun e => by subst e; exact hk hg)⟩
theorem CxS.setRow {B : Nat} {w0 w : World} {n : Nat} {m r : List Asr} {g t : Nat} {cs : Array Value} (h : CxS B w0 w n m) (k : At m (.blk g (.cells cs t (0, 0))) r) (cs' : Array Value) :
    CxS B w0 (w.setRow g cs') n (.blk g (.cells cs' t (0, 0)) :: r) := by
  obtain ⟨h, rfl⟩ := h
  obtain ⟨S, ha, hs, hr, hc⟩ := (h.find k).open_
  exact ⟨hc _ [.blk g (.cells cs' t (0, 0))] (Only.setRow_ ha.1 cs') ⟨fun i => i = g, ⟨rfl, setRow_heap w g cs cs' t (0, 0) ha.2⟩, fun i hi => .inl (by subst hi; exact ha.1), trivial⟩, by simp [World.setRow]⟩
/-- copy(dst, src), dst in a block known whole. -/
theorem cx_copy {P : Program} {w w0 : World} {B : Nat} {m r : List Asr} {ops : Array Oper} {rest : List Oper} {o : Oper} {a : Act} {Q : Exit → Act → World → Prop} (hgd : o.guard = none) (d s : Operand) (dT sT : TypeId)
    (ho : o.op = .call { callee := .builtin .copy, args := #[d, s], argTypes := #[dT, sT] }) (elem : TypeId) (hu : P.underlying dT = some (.slice elem)) (hsz : (P.info? elem).map (·.size) = some 1)
    (dp sp : Option Addr) (dLen dCap sLen sCap : Nat) (hd : a.eval d = .slice dp dLen dCap) (hs : a.eval s = .slice sp sLen sCap)
    (g off : Nat) (cur : List Value) (t : TypeId) (H : Cx B w0 w m) {curA : Array Value} (k : At m (.blk g (.cells curA t (0, 0))) r) (hcur : curA = cur.toArray) (cs : List Value) (hn : cs.length = Nat.min sLen dLen)
    (hpos : 0 < cs.length → dp = some ⟨g, off, none⟩ ∧ ∃ ad, sp = some ad ∧ ∀ j v, cs[j]? = some v → w.cell? (ad.add j) = some v)
    (hfit : off + cs.length ≤ cur.length) (h1 : ∀ v ∈ cs, v.oneCell' = true)
    (h : ∀ w', Cx B w0 w' (.blk g (.cells (splice cur off cs).toArray t (0, 0)) :: r) → wpList P ops Q rest (a.put o.dst (goInt cs.length)) w') :
    wpList P ops Q (o :: rest) a w := by
  subst hcur
  by_cases h0 : cs.length = 0
  · obtain rfl : cs = [] := List.eq_nil_of_length_eq_zero h0
    refine wpList_copy_nothing hgd d s dT sT ho elem hu hsz dp sp dLen dCap sLen sCap hd hs (by simpa using hn.symm) ?_
    exact h w (by simpa [splice] using H.find k)
  · obtain ⟨rfl, ad, rfl, hsrc⟩ := hpos (by omega)
    refine wpList_copy_own hgd d s dT sT ho elem hu hsz g off dLen dCap ad sLen sCap hd hs cur.toArray t (H.blk k) cs hn hsrc (by simpa using hfit) h1 ?_
    exact h _ (by simpa [splice] using (H.toS.setRow k _).cx)
theorem Cx.genCall {B : Nat} {w0 T : World} {n : Nat} {m : List Asr} {P : Program} {f : FuncId} {args : Array Value} {Q : Ending → World → Prop} (h : CxS B w0 T n m) (k : ∀ w1, Cx B w0 w1 m → Calls P f args w1 Q) : Calls P f args T Q := k T h.cx
theorem Cx.genCode {B : Nat} {w0 T : World} {n : Nat} {m : List Asr} {P : Program} {c : Code} {Q : Exit → Act → World → Prop} {a : Act} (h : CxS B w0 T n m) (k : ∀ w1, Cx B w0 w1 m → Code.wp P c Q a w1) : Code.wp P c Q a T := k T h.cx
theorem Cx.genList {B : Nat} {w0 T : World} {n : Nat} {m : List Asr} {P : Program} {ops : Array Oper} {rest : List Oper} {Q : Exit → Act → World → Prop} {a : Act} (h : CxS B w0 T n m) (k : ∀ w1, Cx B w0 w1 m → wpList P ops Q rest a w1) : wpList P ops Q rest a T := k T h.cx
/-- A call of append whose run is known. -/
theorem wpList_append_run {P : Program} {w w1 : World} {ops : Array Oper} {rest : List Oper} {o : Oper} {a : Act} {Q : Exit → Act → World → Prop} (hgd : o.guard = none) (s x : Operand) (t tn : TypeId)
    (ho : o.op = .call { callee := .builtin .append, args := #[s, x], argTypes := #[t, tn] }) (vs vx r : Value) (hs : a.eval s = vs) (hx : a.eval x = vx) (hrun : (Builtin.append_ #[t, tn] o.type #[vs, vx]).run P w = .ok r w1)
    (h : wpList P ops Q rest (a.put o.dst r) w1) : wpList P ops Q (o :: rest) a w := by
  refine wpList_plain hgd fun K hK => ?_
  unfold Oper.wp
  simp [execOp, ho, resolve, invoke, builtin, hs, hx, hrun, Result.andThen]
  exact hK _ _ h
/-- A row of the call's own. -/
def rowR {α : Type} (d : Kd α) (e : Nat) : Repr (List α) := ⟨fun w S v xs => d.R e w 0 S v xs, fun h k hd => R_only h k hd⟩
abbrev bytesR : Repr (List Int) := rowR (Kd.int .u8) 5
theorem Cx.push {α : Type} {d : Kd α} {e B : Nat} {w0 w w' : World} {m : List Asr} {ok : Nat → Prop} {v : Value} {xs : List α} (h : Cx B w0 w m) (hr : d.R e w' w.heap.size ok v xs) (hb : Below w.heap.size w w') : Cx B w0 w' (.own (rowR d e) v xs :: m) :=
  h.join (n := [.own (rowR d e) v xs]) ⟨hb, hb.size, ⟨_, Kd.R_lower (R_made_in hr) (Nat.zero_le _), fun _ h => h, trivial⟩⟩
/-- A row of the call's own is read. -/
theorem Cx.row {α : Type} {d : Kd α} {e B n c : Nat} {A : Option Addr} {w0 w : World} {m r : List Asr} {xs : List α} (h : Cx B w0 w m) (k : At m (.own (rowR d e) (.slice A n c) xs) r) : n = xs.length ∧ xs.length ≤ c ∧ d.C w A xs.length xs := by
  obtain ⟨S, hr, _⟩ := h.has k
  obtain ⟨h1, h2, h3⟩ := Kd.R_reads' (show d.R e w 0 S (.slice A n c) xs from hr)
  exact ⟨h1, by omega, h3⟩
theorem Cx.slice {α : Type} {d : Kd α} {e B : Nat} {w0 w : World} {m r : List Asr} {v : Value} {xs : List α} (h : Cx B w0 w m) (k : At m (.own (rowR d e) v xs) r) : ∃ A c, v = .slice A xs.length c ∧ xs.length ≤ c := by
  obtain ⟨S, hr, _⟩ := h.has k
  obtain ⟨A, c, h1, h2, _⟩ := Kd.R_reads (show d.R e w 0 S v xs from hr)
  exact ⟨A, c, h1, h2⟩
/-- What the walk's law of an append needs of a row, and what it leaves. -/
theorem Cx.grow {α : Type} {d : Kd α} {e B : Nat} {w0 w : World} {m r : List Asr} {v : Value} {xs : List α} (h : Cx B w0 w m) (k : At m (.own (rowR d e) v xs) r) :
    ∃ ok : Nat → Prop, d.R e w 0 ok v xs ∧ (∀ i, w.heap.size ≤ i → ok i) ∧ ∀ w1 v1 ys, d.R e w1 0 ok v1 ys → w.grownBy w1 v.ownBlock → Cx B w0 w1 (.own (rowR d e) v1 ys :: r) := by
  obtain ⟨S, ha, hs, hr, hc⟩ := (h.find k).open_
  have ha : d.R e w 0 S v xs := ha
  refine ⟨fun i => S i ∨ w.heap.size ≤ i, Kd.R_mono ha (fun _ h => .inl h), fun _ h => .inr h, fun w1 v1 ys h1 hg => ?_⟩
  refine hc w1 [.own (rowR d e) v1 ys] (Only.of_grown hg (fun k hk => ha.1 k hk)) ⟨Grow S w w1, ?_, fun _ h => h, trivial⟩
  exact Kd.R_mono (Kd.R_bound h1) (fun i hi => hi.1.imp id (fun h2 => ⟨h2, hi.2.2.1⟩))
theorem Cx.atList {B : Nat} {w0 T : World} {n : Nat} {m : List Asr} {P : Program} {ops : Array Oper} {rest : List Oper} {Q : Exit → Act → World → Prop} {a : Act} (h : CxS B w0 T n m) (k : Cx B w0 T m → wpList P ops Q rest a T) : wpList P ops Q rest a T := k h.cx
theorem gate_load {P : Program} {w : World} {ops : Array Oper} {rest : List Oper} {o : Oper} {a : Act} {Q : Exit → Act → World → Prop} {t : TypeId} {x : Operand} (_ho : o.op = .load t x) (h : wpList P ops Q (o :: rest) a w) : wpList P ops Q (o :: rest) a w := h
theorem gate_store {P : Program} {w : World} {ops : Array Oper} {rest : List Oper} {o : Oper} {a : Act} {Q : Exit → Act → World → Prop} {t : TypeId} {x y : Operand} (_ho : o.op = .store t x y) (h : wpList P ops Q (o :: rest) a w) : wpList P ops Q (o :: rest) a w := h
theorem Cx.nil {B : Nat} {w0 w : World} {m : List Asr} (h : Cx B w0 w m) : Cx B w0 w [] := ⟨h.bel, h.le, trivial⟩
theorem Cx.atPost {B : Nat} {w0 T : World} {n : Nat} {m : List Asr} {P : Program} {fn : Func} {R : Ending → World → Prop} {e : Exit} {a : Act} (h : CxS B w0 T n m) (k : Cx B w0 T m → bodyPost P fn R e a T) : bodyPost P fn R e a T := k h.cx
/-- What lies in a block that lay is read behind a draw and a new block (the walk's simp doesn't see it by itself). -/
theorem alloc_cell {W : World} {n : Nat} {o : Obj} {b j : Nat} (h : b < W.heap.size) : ((W.drewN n).alloc o).cell? ⟨b, j, none⟩ = W.cell? ⟨b, j, none⟩ := by
  simp only [World.cell?]
  rw [Below.heap_alloc (W.drewN n) o b h]
  rfl
theorem alloc_frozen {W : World} {n : Nat} {o : Obj} {b j : Nat} (h : b < W.heap.size) : ((W.drewN n).alloc o).frozen? ⟨b, j, none⟩ = W.frozen? ⟨b, j, none⟩ := by
  simp only [World.frozen?]
  rw [Below.heap_alloc (W.drewN n) o b h]
  rfl
theorem cx_copy_run {P : Program} {w w0 : World} {B : Nat} {m r : List Asr} (dT sT ty : TypeId) (elem : TypeId) (hu : P.underlying dT = some (.slice elem)) (hsz : (P.info? elem).map (·.size) = some 1)
    (dp sp : Option Addr) (dLen dCap sLen sCap : Nat) (g off : Nat) (cur : List Value) (t : TypeId) (H : Cx B w0 w m) {curA : Array Value} (k : At m (.blk g (.cells curA t (0, 0))) r) (hcur : curA = cur.toArray) (cs : List Value) (hn : cs.length = Nat.min sLen dLen)
    (hpos : 0 < cs.length → dp = some ⟨g, off, none⟩ ∧ ∃ ad, sp = some ad ∧ ∀ j v, cs[j]? = some v → w.cell? (ad.add j) = some v)
    (hfit : off + cs.length ≤ cur.length) (h1 : ∀ v ∈ cs, v.oneCell' = true) :
    ∃ w', (Builtin.copy_ #[dT, sT] ty #[.slice dp dLen dCap, .slice sp sLen sCap]).run P w = .ok (goInt cs.length) w' ∧ Cx B w0 w' (.blk g (.cells (splice cur off cs).toArray t (0, 0)) :: r) := by
  subst hcur
  by_cases h0 : cs.length = 0
  · obtain rfl : cs = [] := List.eq_nil_of_length_eq_zero h0
    exact ⟨w, run_copy_none (P := P) w dT sT ty elem dp sp dLen dCap sLen sCap hu hsz (by simpa using hn.symm), by simpa [splice] using H.find k⟩
  · obtain ⟨rfl, ad, rfl, hsrc⟩ := hpos (by omega)
    exact ⟨_, run_copy_row (P := P) w dT sT ty elem g off dLen dCap ad sLen sCap cur.toArray t cs hu hsz (H.blk k) hn hsrc (by simpa using hfit) h1, by simpa [splice] using (H.toS.setRow k _).cx⟩
/-- The same as one step of a region that draws its order. -/
theorem cx_copy_step {P : Program} {w w0 : World} {B : Nat} {m r : List Asr} {ops : Array Oper} {o : Oper} {a : Act} {K : Act → World → Prop} {Q : Exit → Act → World → Prop} (hw : Region.wanted o (yielded ops a.tmps) = true) (d s : Operand) (dT sT : TypeId)
    (ho : o.op = .call { callee := .builtin .copy, args := #[d, s], argTypes := #[dT, sT] }) (elem : TypeId) (hu : P.underlying dT = some (.slice elem)) (hsz : (P.info? elem).map (·.size) = some 1)
    (dp sp : Option Addr) (dLen dCap sLen sCap : Nat) (hd : a.eval d = .slice dp dLen dCap) (hs : a.eval s = .slice sp sLen sCap)
    (g off : Nat) (cur : List Value) (t : TypeId) (H : Cx B w0 w m) {curA : Array Value} (k : At m (.blk g (.cells curA t (0, 0))) r) (hcur : curA = cur.toArray) (cs : List Value) (hn : cs.length = Nat.min sLen dLen)
    (hpos : 0 < cs.length → dp = some ⟨g, off, none⟩ ∧ ∃ ad, sp = some ad ∧ ∀ j v, cs[j]? = some v → w.cell? (ad.add j) = some v)
    (hfit : off + cs.length ≤ cur.length) (h1 : ∀ v ∈ cs, v.oneCell' = true)
    (h : ∀ w', Cx B w0 w' (.blk g (.cells (splice cur off cs).toArray t (0, 0)) :: r) → K (a.put o.dst (goInt cs.length)) w') :
    if Region.wanted o (yielded ops a.tmps) = true then o.wp P a w K Q else K (a.put o.dst undef) w := by
  subst hcur
  rw [if_pos hw]
  obtain ⟨w', hrun, hcx⟩ := cx_copy_run (P := P) dT sT o.type elem hu hsz dp sp dLen dCap sLen sCap g off cur t H k rfl cs hn hpos hfit h1
  unfold Oper.wp
  simp [execOp, ho, resolve, invoke, builtin, hd, hs, hrun, Result.andThen]
  exact h _ hcx
theorem Cx.atStep {B : Nat} {w0 T : World} {n : Nat} {m : List Asr} {P : Program} {ops : Array Oper} {o : Oper} {a : Act} {K : Act → World → Prop} {Q : Exit → Act → World → Prop} (h : CxS B w0 T n m) (k : Cx B w0 T m → if Region.wanted o (yielded ops a.tmps) = true then o.wp P a T K Q else K (a.put o.dst undef) T) : if Region.wanted o (yielded ops a.tmps) = true then o.wp P a T K Q else K (a.put o.dst undef) T := k h.cx
theorem gate_step {P : Program} {w : World} {ops : Array Oper} {o : Oper} {a : Act} {K : Act → World → Prop} {Q : Exit → Act → World → Prop} {b : Builtin} {xs : Array Operand} {ts : Array TypeId} (_ho : o.op = .call { callee := .builtin b, args := xs, argTypes := ts }) (h : if Region.wanted o (yielded ops a.tmps) = true then o.wp P a w K Q else K (a.put o.dst undef) w) : if Region.wanted o (yielded ops a.tmps) = true then o.wp P a w K Q else K (a.put o.dst undef) w := h
theorem C_map {w : World} {A : Option Addr} {l : List Int} (h : Kd.C (Kd.int .u8) w A l.length l) (hp : 0 < l.length) : ∃ ad, A = some ad ∧ ∀ (j : Nat) v, (l.map (Value.int .u8))[j]? = some v → w.cell? (ad.add j) = some v := by
  obtain ⟨ad, e, hc⟩ := C_cells h hp
  refine ⟨ad, e, fun j v hv => ?_⟩
  rw [List.getElem?_map] at hv
  rcases hl : l[j]? with _ | x
  · rw [hl] at hv; cases hv
  · rw [hl] at hv
    have hj := (List.getElem?_eq_some_iff.1 hl).1
    rw [hc j hj]
    rw [← hv]
    simp [rd, hl]
theorem C_pair {W : World} {g t : Nat} {A1 A2 : Option Addr} {n1 n2 c1 c2 : Nat} {l1 l2 : List Int} (hb : W.heap[g]? = some (.cells #[.slice A1 n1 c1, .slice A2 n2 c2] t (0, 0))) (h1 : Kd.C (Kd.int .u8) W A1 n1 l1) (k1 : n1 ≤ c1) (h2 : Kd.C (Kd.int .u8) W A2 n2 l2) (k2 : n2 ≤ c2) :
    Kd.C (Kd.slice 5 (Kd.int .u8)) W (some ⟨g, 0, none⟩) 2 [l1, l2] := by
  have e1 := h1.1
  have e2 := h2.1
  subst e1
  subst e2
  exact C_block (Kd.slice 5 (Kd.int .u8)) rfl hb [l1, l2] (by simp) (fun j z hj => by
    rcases j with _ | _ | j
    · simp at hj; subst hj; exact ⟨_, rfl, A1, c1, rfl, k1, h1⟩
    · simp at hj; subst hj; exact ⟨_, rfl, A2, c2, rfl, k2, h2⟩
    · simp at hj)
theorem C_one {W : World} {g t : Nat} {A1 : Option Addr} {n1 c1 : Nat} {l1 : List Int} (hb : W.heap[g]? = some (.cells #[.slice A1 n1 c1] t (0, 0))) (h1 : Kd.C (Kd.int .u8) W A1 n1 l1) (k1 : n1 ≤ c1) :
    Kd.C (Kd.slice 5 (Kd.int .u8)) W (some ⟨g, 0, none⟩) 1 [l1] := by
  have e1 := h1.1
  subst e1
  exact C_block (Kd.slice 5 (Kd.int .u8)) rfl hb [l1] (by simp) (fun j z hj => by
    rcases j with _ | j
    · simp at hj; subst hj; exact ⟨_, rfl, A1, c1, rfl, k1, h1⟩
    · simp at hj)
theorem Cx.head {B : Nat} {w0 w : World} {m r : List Asr} {a : Asr} (h : Cx B w0 w m) (k : At m a r) : Cx B w0 w [a] := by
  have h := h.find k
  obtain ⟨S, ha, hs, _⟩ := h.sep
  exact ⟨h.bel, h.le, S, ha, hs, trivial⟩
/-- A guarded load of a whole block. -/
theorem wpList_load_row_g {P : Program} {ops : Array Oper} {rest : List Oper} {o : Oper} {a : Act} {w : World} {Q : Exit → Act → World → Prop} (hw : Region.wanted o (yielded ops a.tmps) = true) (ty : TypeId) (x : Operand) (ho : o.op = .load ty x)
    (g : Nat) (hx : a.eval x = .pointer (some ⟨g, 0, none⟩)) (t : TypeId) (cs : Array Value) (fr : Nat × Nat) (d : TypeDesc) (hg : w.heap[g]? = some (.cells cs t fr))
    (hu : P.underlying ty = some d) (hd : (match d with | .struct _ | .array _ _ => true | _ => false) = true) (hi : (P.info? ty).map (·.size) = some cs.size)
    (h : wpList P ops Q rest (a.put o.dst (.agg cs)) w) : wpList P ops Q (o :: rest) a w := by
  unfold wpList
  rw [if_pos hw]
  exact .inl (wp_load_row ty x ho g hx t cs fr d hg hu hd hi h)
/-- A row that was written out. -/
theorem Cx.lit {B : Nat} {w0 w : World} {m r : List Asr} {g : Nat} {cs : Array Value} (l : List Int) (H : Cx B w0 w m) (k : At m (.blk g (.cells cs 5 (0, 0))) r) (hcs : cs = (l.map (Value.int .u8)).toArray) (hl : l.length ≤ 1000000) : Cx B w0 w (.own bytesR (.slice (some ⟨g, 0, none⟩) l.length l.length) l :: r) := by
  subst hcs
  obtain ⟨S, ha, hs, _, hcl⟩ := (H.find k).open_
  have ho : w.ownsRow 0 5 1 (.slice (some ⟨g, 0, none⟩) l.length l.length) l.length (encs (Value.int .u8) l) :=
    ⟨by simp [encs], .inr ⟨g, l.length, _, rfl, Nat.zero_le _, ha.2, Nat.le_refl _, by unfold maxLen; omega, by simp, by rw [Nat.mul_one]; exact List.take_of_length_le (by simp)⟩⟩
  exact hcl w [.own bytesR _ l] (Only.refl _ _) ⟨fun i => i = g, Kd.R_of_own (enc := Value.int .u8) (h1 := fun _ => rfl) ho (fun q hq => by simp [Value.ownBlock] at hq; exact hq.symm), fun i hi => .inl (by subst hi; exact ha.1), trivial⟩
theorem Cx.rowN {α : Type} {d : Kd α} {e B n c : Nat} {A : Option Addr} {w0 w : World} {m r : List Asr} {xs : List α} (h : Cx B w0 w m) (k : At m (.own (rowR d e) (.slice A n c) xs) r) : d.C w A n xs ∧ n ≤ c := by
  obtain ⟨h1, h2, h3⟩ := h.row k
  subst h1
  exact ⟨h3, h2⟩
theorem C_lit1 {W : World} {g : Nat} {x : Int} (hb : W.heap[g]? = some (.cells #[.int .u8 x] 5 (0, 0))) : Kd.C (Kd.int .u8) W (some ⟨g, 0, none⟩) 1 [x] :=
  C_block (Kd.int .u8) rfl hb [x] (by simp) (fun j z hj => by
    rcases j with _ | j
    · simp at hj; subst hj; exact ⟨_, rfl, rfl⟩
    · simp at hj)
/-- 'T{}', of no elements. -/
theorem Cx.lit0 {B : Nat} {w0 w : World} {m r : List Asr} {g : Nat} (H : Cx B w0 w m) (k : At m (.blk g (.cells #[] 5 (0, 0))) r) : Cx B w0 w (.own bytesR (.slice (some ⟨g, 0, none⟩) 0 0) [] :: r) := H.lit (cs := #[]) [] k rfl (by simp)

-- AUX BG
-- Rows whose elements have several cells: literals, appends, loads; arrays inside structs.
def putAt (cells : Array Value) (off : Nat) (l : List Value) : Array Value := (cells.toList.take off ++ l ++ cells.toList.drop (off + l.length)).toArray
theorem fold_put : ∀ (l : List Value) (k off : Nat) (cells : Array Value), off + k + l.length ≤ cells.size →
    (l.zipIdx k).foldl (fun a (p : Value × Nat) => a.setIfInBounds (off + p.2) p.1) cells = putAt cells (off + k) l
  | [], k, off, cells, h => by
    unfold putAt
    rw [List.length_nil, Nat.add_zero, List.append_nil, List.take_append_drop]
    rfl
  | c :: l, k, off, cells, h => by
    rw [List.zipIdx_cons, List.foldl_cons, fold_put l (k + 1) off _ (by simp only [List.length_cons] at h; simp; omega)]
    unfold putAt
    simp only [List.length_cons] at h
    congr 1
    simp only [Array.toList_setIfInBounds, List.length_cons]
    have h1 : off + k < cells.toList.length := by simp; omega
    rw [show off + (k + 1) = off + k + 1 by omega, List.take_add_one, List.getElem?_set_self h1, List.take_set_of_le (Nat.le_refl _), List.drop_set_of_lt (by omega)]
    simp only [Option.toList_some, List.append_assoc, List.cons_append, List.nil_append]
    rw [show off + k + 1 + l.length = off + k + (l.length + 1) by omega]
theorem fill_cons {place : Nat → Option (Nat × Nat)} {cells : Array Value} {i off size : Nat} {v : Value} {rest : List (Nat × Value)} (hp : place i = some (off, size)) (h1 : v.cells.size = size) (h2 : off + size ≤ cells.size) :
    Instr.fill place cells ((i, v) :: rest) = Instr.fill place (putAt cells off v.cells.toList) rest := by
  have hc : (decide (v.cells.size ≠ size) || decide (off + v.cells.size > cells.size)) = false := by simp; omega
  have hf : v.cells.zipIdx.foldl (fun cs (p : Value × Nat) => cs.setIfInBounds (off + p.2) p.1) cells = putAt cells off v.cells.toList := by
    rw [← Array.foldl_toList, Array.toList_zipIdx]
    exact fold_put v.cells.toList 0 off cells (by simp; omega)
  conv => lhs; unfold Instr.fill
  simp only [hp, hc, Bool.false_eq_true, if_false]
  exact congrArg (fun x => Instr.fill place x rest) hf
theorem putAt_all {cells : Array Value} {l : List Value} (h : l.length = cells.size) : putAt cells 0 l = l.toArray := by
  unfold putAt
  rw [List.take_zero, List.nil_append, Nat.zero_add, List.drop_eq_nil_of_le (by simp; omega), List.append_nil]
/-- A row of one element, written out. -/
theorem run_buildSlice_one {P : Program} (W : World) (t e n : Nat) (v z : Value) (ht : P.underlying t = some (.slice e)) (hi : (P.info? e).map (fun i => (i.zero, i.size)) = some (some z, n)) (hz : z.cells.size = n) (hv : v.cells.size = n) (hn : 0 < n) (hn2 : n ≤ 16777216) :
    (Instr.buildSlice t 1 #[(0, v)]).run P W = .ok (.slice (some ⟨W.heap.size, 0, none⟩) 1 1) (W.alloc (.cells v.cells e)) := by
  obtain ⟨i, hi, hzz⟩ := Option.map_eq_some_iff.1 hi
  simp only [Prod.mk.injEq] at hzz
  have hne : n ≠ 0 := by omega
  have hbig : ¬ (n > 16777216) := by omega
  have hfill : Instr.fill (fun i => some (i * n, n)) ((Array.range (1 * n)).map (fun j => z.cells[j % z.cells.size]!)) [(0, v)] = some v.cells := by
    rw [fill_cons (off := 0) (size := n) (by simp) hv (by simp)]
    unfold Instr.fill
    rw [putAt_all (by simp [hv])]
  simp only [Nat.one_mul] at hfill
  simp [Instr.buildSlice, run_underlying ht, sizeOf, typeInfo, zeroValue, hi, hzz.1, hzz.2, hne, hbig, hfill, newRow]
/-- Append to a row of the call's own: where it lies then. -/
theorem app_big_run {P : Program} (w : World) (t ty e : TypeId) (i : TypeInfo) (z : Value) (size bytes : Nat) (ht : P.underlying t = some (.slice e)) (hi : P.info? e = some i) (hz : i.zero = some z)
    (hsize : i.size = size) (hby : i.bytes = bytes) (hzs : z.cells.size = size) (hsz : 0 < size) (v : Value) (n : Nat) (xs : List Value) (hown : w.ownsRow 0 e size v n xs)
    (a : Addr) (m c : Nat) (news : List Value) (hl : news.length = m * size) (hnews : ∀ j u, news[j]? = some u → w.cell? (a.add j) = some u) (h1 : ∀ u ∈ news, u.oneCell' = true) (h63 : n + m ≤ 1000000) (hbytes : bytes ≤ 100000000) :
    ∃ v' w', (Builtin.append_ #[t, t] ty #[v, .slice (some a) m c]).run P w = .ok v' w' ∧ w'.ownsRow 0 e size v' (n + m) (xs ++ news) ∧ w.grownBy w' v.ownBlock ∧ (v' = .slice none 0 0 ↔ v = .slice none 0 0 ∧ m = 0) ∧ (v'.ownBlock = v.ownBlock ∨ v'.ownBlock = some w.heap.size) := by
  have hb1 : (n + m) * bytes ≤ 140737488355328 := Nat.le_trans (Nat.mul_le_mul h63 hbytes) (by decide)
  obtain ⟨v', w', hrun, ho, hg, hiff⟩ := run_append_own (P := P) w 0 t ty e i z size bytes ht hi hz hsize hby hzs hsz v n xs hown a m c news hl hnews h1 (by unfold maxLen; omega) hb1 (Nat.zero_le _)
  refine ⟨v', w', hrun, ho, hg, hiff, ?_⟩
  rcases hown.2 with ⟨rfl, rfl⟩ | ⟨g, cap, cur, rfl, hbg, hgg, hnc, hcm, hcs, htake⟩
  · by_cases hm : m = 0
    · obtain rfl := hiff.2 ⟨rfl, hm⟩
      exact .inl rfl
    · have hr := run_append_nil (P := P) w t ty e i z ht hi hz a m c news (by rw [hsize]; exact hl) hnews (by omega) (by omega) (by rw [hby]; rw [Nat.zero_add] at hb1; omega)
      rw [hr] at hrun
      injection hrun with e1 e2
      subst e1
      exact .inr rfl
  · by_cases hroom : n + m ≤ cap
    · have hr := run_append_room (P := P) w t ty e i ht hi g n cap cur hgg a m c news (by rw [hsize]; exact hl) hnews h1 hroom (by rw [hl, hcs, hsize, ← Nat.add_mul]; exact Nat.mul_le_mul_right _ hroom)
      rw [hr] at hrun
      injection hrun with e1 e2
      subst e1
      exact .inl rfl
    · have hr := run_append_grow (P := P) w t ty e i z ht hi hz ⟨g, 0, none⟩ n cap xs (by rw [hsize]; exact hown.1) (hown.cells (g := g) rfl) a m c news (by rw [hsize]; exact hl) hnews (by omega) (by omega) (growslice_fits (by omega) (by rw [hby]; exact hb1))
      rw [hr] at hrun
      injection hrun with e1 e2
      subst e1
      exact .inr rfl
/-- A row of the call's own, of elements of several cells. -/
def bigR {α : Type} (e sz : Nat) (enc : α → List Value) : Repr (List α) := ⟨fun w S v xs => (∀ x ∈ xs, (enc x).length = sz) ∧ w.ownsRow 0 e sz v xs.length (xs.flatMap enc) ∧ ∀ q, v.ownBlock = some q → S q,
  fun ⟨h1, ⟨h2, h3⟩, h4⟩ k hd => ⟨h1, ⟨h2, h3.imp id (fun ⟨g, cap, cur, e1, e2, e3, e4, e5, e6, e7⟩ => ⟨g, cap, cur, e1, e2, k.same_block e3 (hd g (h4 g (by rw [e1]; rfl))), e4, e5, e6, e7⟩)⟩, h4⟩⟩
theorem flat_len {α : Type} {enc : α → List Value} {sz : Nat} : ∀ {xs : List α}, (∀ x ∈ xs, (enc x).length = sz) → (xs.flatMap enc).length = xs.length * sz
  | [], _ => by simp
  | x :: xs, h => by rw [List.flatMap_cons, List.length_append, flat_len (fun y hy => h y (List.mem_cons_of_mem _ hy)), h x List.mem_cons_self, List.length_cons, Nat.add_mul]; omega
theorem Cx.app_big {α : Type} {B : Nat} {w0 w : World} {mm r : List Asr} {e size bytes : Nat} {enc : α → List Value} {v z : Value} {xs : List α} (H : Cx B w0 w mm) (k : At mm (.own (bigR e size enc) v xs) r) {P : Program} (t ty : TypeId)
    (ht : P.underlying t = some (.slice e)) (hi : (P.info? e).map (fun i => (i.zero, i.size, i.bytes)) = some (some z, size, bytes)) (hzs : z.cells.size = size) (hsz : 0 < size) (hby : bytes ≤ 100000000)
    (ys : List α) (a : Addr) (m c : Nat) (hm : m = ys.length) (hys : ∀ y ∈ ys, (enc y).length = size) (hnews : ∀ j u, (ys.flatMap enc)[j]? = some u → w.cell? (a.add j) = some u) (h1 : ∀ u ∈ ys.flatMap enc, u.oneCell' = true) (h63 : xs.length + ys.length ≤ 1000000) :
    ∃ v' w', (Builtin.append_ #[t, t] ty #[v, .slice (some a) m c]).run P w = .ok v' w' ∧ (v' = .slice none 0 0 ↔ v = .slice none 0 0 ∧ m = 0) ∧ Cx B w0 w' (.own (bigR e size enc) v' (xs ++ ys) :: r) := by
  subst hm
  obtain ⟨i, hi, hzz⟩ := Option.map_eq_some_iff.1 hi
  simp only [Prod.mk.injEq] at hzz
  obtain ⟨S, ⟨hx, hown, hS⟩, hs2, _, hcl⟩ := (H.find k).open_
  obtain ⟨v', w', hrun, ho, hg, hiff, hwh⟩ := app_big_run (P := P) w t ty e i z size bytes ht hi hzz.1 hzz.2.1 hzz.2.2 hzs hsz v xs.length _ hown a ys.length c (ys.flatMap enc) (flat_len hys) hnews h1 h63 hby
  refine ⟨v', w', hrun, hiff, hcl w' [.own (bigR e size enc) v' (xs ++ ys)] (Only.of_grown hg hS) ⟨Grow S w w', ⟨?_, ?_, fun q hq => ?_⟩, fun _ h => h, trivial⟩⟩
  · intro x hx'
    rcases List.mem_append.1 hx' with h | h
    · exact hx x h
    · exact hys x h
  · rw [List.length_append, List.flatMap_append]; exact ho
  · rcases hwh with h | h
    · rw [h] at hq; exact .inl (hS q hq)
    · rw [h] at hq
      injection hq with hq
      subst hq
      exact .inr ⟨Nat.le_refl _, (ho.lt _ h).2⟩
theorem Cx.bigNil {α : Type} {B : Nat} {w0 w : World} {m : List Asr} (e size : Nat) (enc : α → List Value) (H : Cx B w0 w m) : Cx B w0 w (.own (bigR e size enc) (.slice none 0 0) [] :: m) :=
  ⟨H.bel, H.le, fun _ => False, ⟨(fun _ h => by cases h), World.ownsRow_nil _ _ _ _, (fun _ h => by cases h)⟩, fun _ h => h.elim, H.sep.mono fun i hi => ⟨hi, fun h => h⟩⟩
/-- What is read of such a row. -/
theorem Cx.bigLen {α : Type} {B : Nat} {w0 w : World} {m r : List Asr} {e size : Nat} {enc : α → List Value} {v : Value} {xs : List α} (H : Cx B w0 w m) (k : At m (.own (bigR e size enc) v xs) r) :
    ∃ A c, v = .slice A xs.length c ∧ xs.length ≤ c ∧ (∀ x ∈ xs, (enc x).length = size) ∧ (0 < xs.length → ∃ g, A = some ⟨g, 0, none⟩ ∧ g < w.heap.size ∧ B ≤ g ∧ ∀ (i j : Nat) (x : α) u, xs[i]? = some x → (enc x)[j]? = some u → w.cell? ⟨g, i * size + j, none⟩ = some u) := by
  obtain ⟨S, ⟨hx, hown, hS⟩, hs2⟩ := H.has k
  rcases hown.2 with ⟨e1, e2⟩ | ⟨g, cap, cur, rfl, hbg, hgg, hnc, hcm, hcs, htake⟩
  · exact ⟨none, 0, by rw [e1, e2], by omega, hx, fun h => by omega⟩
  · refine ⟨_, cap, rfl, hnc, hx, fun _ => ⟨g, rfl, (hs2 g (hS g rfl)).2, (hs2 g (hS g rfl)).1, fun i j x u hi hj => ?_⟩⟩
    rw [cell_of hgg]
    have hcell : (xs.flatMap enc)[i * size + j]? = some u := by
      have hi' := (List.getElem?_eq_some_iff.1 hi).1
      have hsplit : xs = xs.take i ++ x :: xs.drop (i + 1) := by
        have := List.getElem?_eq_some_iff.1 hi
        rw [← this.2, ← List.drop_eq_getElem_cons, List.take_append_drop]
      have hlen : ((xs.take i).flatMap enc).length = i * size := by
        rw [flat_len (sz := size) (fun y hy => hx y (List.mem_of_mem_take hy)), List.length_take, Nat.min_eq_left (by omega)]
      have hjl := (List.getElem?_eq_some_iff.1 hj).1
      rw [hsplit, List.flatMap_append, List.flatMap_cons, List.getElem?_append_right (by omega), hlen, Nat.add_sub_cancel_left, List.getElem?_append_left hjl]
      exact hj
    rw [← htake, List.getElem?_take] at hcell
    split at hcell
    · simpa using hcell
    · cases hcell
/-- An element of such a row. -/
theorem Cx.bigAt {α : Type} {B : Nat} {w0 w : World} {m r : List Asr} {e size n c : Nat} {A : Option Addr} {enc : α → List Value} {xs : List α} (H : Cx B w0 w m) (k : At m (.own (bigR e size enc) (.slice A n c) xs) r) (i : Nat) (x : α) (hi : xs[i]? = some x) :
    ∃ g, A = some ⟨g, 0, none⟩ ∧ g < w.heap.size ∧ B ≤ g ∧ (enc x).length = size ∧ ∀ j u, (enc x)[j]? = some u → w.cell? ⟨g, i * size + j, none⟩ = some u := by
  obtain ⟨A', c', e1, _, hx, hr⟩ := H.bigLen k
  injection e1 with e1 e2 e3
  subst e1
  obtain ⟨g, hA, h1, h2, h3⟩ := hr (by have := (List.getElem?_eq_some_iff.1 hi).1; omega)
  exact ⟨g, hA, h1, h2, hx x (List.mem_of_getElem? hi), fun j u hu => h3 i j x u hi hu⟩
/-- A block that holds one element, or a row that was written out. -/
theorem Cx.bigLit {α : Type} {B : Nat} {w0 w : World} {m r : List Asr} {g : Nat} {e size : Nat} {enc : α → List Value} {cs : Array Value} (xs : List α) (H : Cx B w0 w m) (k : At m (.blk g (.cells cs e (0, 0))) r) (hcs : cs = (xs.flatMap enc).toArray) (hx : ∀ x ∈ xs, (enc x).length = size) (hl : xs.length ≤ 1000000) :
    Cx B w0 w (.own (bigR e size enc) (.slice (some ⟨g, 0, none⟩) xs.length xs.length) xs :: r) := by
  subst hcs
  obtain ⟨S, ha, hs, _, hcl⟩ := (H.find k).open_
  have hf := flat_len hx
  exact hcl w [.own (bigR e size enc) _ xs] (Only.refl _ _) ⟨fun i => i = g, ⟨hx, ⟨hf, .inr ⟨g, xs.length, _, rfl, Nat.zero_le _, ha.2, Nat.le_refl _, by unfold maxLen; omega, by simpa using hf, by rw [← hf]; exact List.take_length⟩⟩, fun q hq => by simp [Value.ownBlock] at hq; exact hq.symm⟩, fun i hi => .inl (by subst hi; exact ha.1), trivial⟩
/-- A load of a whole block ahead of the effects of a region that draws its order. -/
theorem wpStill_load_row {P : Program} {ops : Array Oper} {w : World} {Q : Act → Prop} {a : Act} {o : Oper} {rest : List Oper} (hw : Region.wanted o (yielded ops a.tmps) = true) (ty : TypeId) (x : Operand) (ho : o.op = .load ty x)
    (g : Nat) (hx : a.eval x = .pointer (some ⟨g, 0, none⟩)) (t : TypeId) (cs : Array Value) (fr : Nat × Nat) (d : TypeDesc) (hg : w.heap[g]? = some (.cells cs t fr))
    (hu : P.underlying ty = some d) (hd : (match d with | .struct _ | .array _ _ => true | _ => false) = true) (hi : (P.info? ty).map (·.size) = some cs.size)
    (h : wpStill P ops w Q rest (a.put o.dst (.agg cs))) : wpStill P ops w Q (o :: rest) a :=
  wpStill_step fun K hK => by
    rw [if_pos hw]
    unfold Oper.still execOp
    simp only [ho, hx, Instr.loadAt, Instr.sureAddr, Sem.run_bind, Sem.run_pure, Result.andThen_ok, run_loadVar_row w g t ty cs fr d hg hu hd hi, Oper.stillUpon]
    exact ⟨trivial, hK _ h⟩
theorem gate_still_load {P : Program} {ops : Array Oper} {w : World} {Q : Act → Prop} {a : Act} {o : Oper} {rest : List Oper} {t : TypeId} {x : Operand} (_ho : o.op = .load t x) (h : wpStill P ops w Q (o :: rest) a) : wpStill P ops w Q (o :: rest) a := h
theorem exec_build {P : Program} {o : Oper} {ρ : Operand → Value} {w : World} {v : Value} (t : TypeId) (parts : Array (Nat × Operand)) (ho : o.op = .build t parts) (vs : Array (Nat × Value)) (hv : parts.toList.map (fun p => (p.1, ρ p.2)) = vs.toList) (hrun : (Instr.build t vs).run P w = .ok v w) :
    (execOp ρ o).run P w = .ok (.value v) w := by
  have hv : (parts.map fun (i, x) => (i, ρ x)) = vs := Array.ext' (by rw [Array.toList_map]; exact hv)
  unfold execOp
  simp only [ho, hv, Sem.run_bind, hrun, Result.andThen_ok]
  rfl
theorem exec_buildSlice {P : Program} {o : Oper} {ρ : Operand → Value} {w w1 : World} {v : Value} (t : TypeId) (n : Nat) (parts : Array (Nat × Operand)) (ho : o.op = .buildSlice t n parts) (vs : Array (Nat × Value)) (hv : parts.toList.map (fun p => (p.1, ρ p.2)) = vs.toList) (hrun : (Instr.buildSlice t n vs).run P w = .ok v w1) :
    (execOp ρ o).run P w = .ok (.value v) w1 := by
  have hv : (parts.map fun (i, x) => (i, ρ x)) = vs := Array.ext' (by rw [Array.toList_map]; exact hv)
  unfold execOp
  simp only [ho, hv, Sem.run_bind, hrun, Result.andThen_ok]
  rfl
theorem step_exec {P : Program} {w w1 : World} {ops : Array Oper} {o : Oper} {a : Act} {K : Act → World → Prop} {Q : Exit → Act → World → Prop} {v : Value} (hw : Region.wanted o (yielded ops a.tmps) = true) (hrun : (execOp a.eval o).run P w = .ok (.value v) w1)
    (h : K (a.put o.dst v) w1) : if Region.wanted o (yielded ops a.tmps) = true then o.wp P a w K Q else K (a.put o.dst undef) w := by
  rw [if_pos hw]
  unfold Oper.wp
  rw [hrun]
  exact h
/-- A call of append whose run is known, as one step of a region that draws its order. -/
theorem append_step_run {P : Program} {w w1 : World} {ops : Array Oper} {o : Oper} {a : Act} {K : Act → World → Prop} {Q : Exit → Act → World → Prop} (hw : Region.wanted o (yielded ops a.tmps) = true) (s x : Operand) (t tn : TypeId)
    (ho : o.op = .call { callee := .builtin .append, args := #[s, x], argTypes := #[t, tn] }) (vs vx r : Value) (hs : a.eval s = vs) (hx : a.eval x = vx) (hrun : (Builtin.append_ #[t, tn] o.type #[vs, vx]).run P w = .ok r w1)
    (h : K (a.put o.dst r) w1) : if Region.wanted o (yielded ops a.tmps) = true then o.wp P a w K Q else K (a.put o.dst undef) w := by
  rw [if_pos hw]
  unfold Oper.wp
  simp [execOp, ho, resolve, invoke, builtin, hs, hx, hrun, Result.andThen]
  exact h

-- AUX u8arr
/-- The cells of an array of bytes. -/
def u8A (s : List Int) : Array Value := (s.map (Value.int .u8)).toArray
theorem u8A_size (s : List Int) : (u8A s).size = s.length := by simp [u8A]
theorem u8A_one (s : List Int) : (u8A s).all (·.oneCell') = true := by
  rw [Array.all_eq_true_iff_forall_mem]
  intro v hv
  simp only [u8A, List.mem_toArray, List.mem_map] at hv
  obtain ⟨x, _, rfl⟩ := hv
  rfl
theorem run_sizeOf_ {P : Program} {e : TypeId} {n : Nat} (hs : (P.info? e).map (·.size) = some n) (w : World) : (sizeOf e).run P w = .ok n w := by
  cases hq : P.info? e with
  | none => simp [hq] at hs
  | some i =>
    have : i.size = n := by simpa [hq] using hs
    simp [sizeOf, typeInfo, hq, this, Sem.run_bind]
theorem part_u8A {P : Program} {e : TypeId} (he : P.underlying e = some (.int .u8)) (xs : List Int) (i : Nat) (h : i < xs.length) (w : World) :
    (part e (u8A xs) i).run P w = .ok (.int .u8 xs[i]) w := by
  unfold part isAgg
  simp only [Sem.run_bind, run_underlying he, Result.andThen_ok, Sem.run_pure, Bool.false_eq_true, if_false]
  have : (u8A xs)[i]? = some (.int .u8 xs[i]) := by simp [u8A, h]
  rw [this]
  rfl
theorem eqloop {P : Program} {e : TypeId} (d : Nat) (he : P.underlying e = some (.int .u8)) (xs ys : List Int) (w : World) : ∀ (m i : Nat), i + m = xs.length → xs.length = ys.length →
    (Sem.run P (forIn (List.range' i m) ((none, ()) : Option Bool × Unit) fun i __s => do
              let __do_lift ← part e (u8A xs) (i * 1)
              let __do_lift_1 ← part e (u8A ys) (i * 1)
              let __do_lift ← Op.equalIn (d + 1) e __do_lift __do_lift_1
              if (!__do_lift) = true then pure (ForInStep.done (some false, ())) else pure (ForInStep.yield (none, ()))) w) =
      .ok (if xs.drop i = ys.drop i then none else some false, ()) w := by
  intro m
  induction m with
  | zero =>
    intro i hi hl
    rw [List.drop_eq_nil_of_le (by omega), List.drop_eq_nil_of_le (by omega)]
    simp
  | succ m ih =>
    intro i hi hl
    have hx : i < xs.length := by omega
    have hy : i < ys.length := by omega
    rw [List.range'_succ, List.forIn_cons]
    simp only [Nat.mul_one, Sem.run_bind, part_u8A he xs i hx, part_u8A he ys i hy, Result.andThen_ok, run_equalIn_int w d e .u8 .u8 _ _ he]
    rw [List.drop_eq_getElem_cons hx, List.drop_eq_getElem_cons hy]
    by_cases h : xs[i] = ys[i]
    · have ih' := ih (i + 1) (by omega) hl
      simp only [Nat.mul_one] at ih'
      simp only [h, beq_self_eq_true, Bool.not_true, Bool.false_eq_true, if_false, Sem.run_pure, Result.andThen_ok, List.cons.injEq, true_and]
      exact ih'
    · have h2 : (xs[i] == ys[i]) = false := beq_eq_false_iff_ne.2 h
      simp only [h2, Bool.not_false, if_true, Sem.run_pure, Result.andThen_ok, List.cons.injEq, h, false_and, if_false]
theorem equalIn_u8A {P : Program} {e : TypeId} (d : Nat) (t n : Nat) (ht : P.underlying t = some (.array n e)) (he : P.underlying e = some (.int .u8)) (hs : (P.info? e).map (·.size) = some 1) (xs ys : List Int) (hx : xs.length = n) (hy : ys.length = n) (w : World) :
    (Op.equalIn (d + 2) t (.agg (u8A xs)) (.agg (u8A ys))).run P w = .ok (decide (xs = ys)) w := by
  rw [Op.equalIn]
  simp only [Sem.run_bind, run_underlying ht, Result.andThen_ok, run_sizeOf_ hs]
  have h := eqloop (P := P) d he xs ys w n 0 (by omega) (by omega)
  rw [Std.Legacy.Range.forIn_eq_forIn_range']
  simp only [Std.Legacy.Range.size, Nat.sub_zero, Nat.add_sub_cancel, Nat.div_one]
  rw [h]
  by_cases hxy : xs = ys
  · subst hxy; simp
  · simp [hxy]
/-- x[l:h], x an array in memory. -/
theorem slice_arr {P : Program} (W : World) (t n e : Nat) (ht : P.underlying t = some (.array n e)) (hs : (P.info? e).map (·.size) = some 1) (b l h : Nat) (i j : Int) (hi : i = (l : Int)) (hj : j = (h : Int)) (h1 : l ≤ h) (h2 : h ≤ n) (h3 : l < n) :
    (Instr.sliceAt t (.pointer (some ⟨b, 0, none⟩)) (some (.int .i64 i)) (some (.int .i64 j)) none).run P W = .ok (.slice (some ⟨b, l, none⟩) (h - l) (n - l)) W := by
  subst hi hj
  have hne : ¬ n = l := by omega
  have ha : (⟨b, 0, none⟩ : Addr).add l = ⟨b, l, none⟩ := by unfold Addr.add; split <;> simp_all
  simp [Instr.sliceAt, run_underlying ht, Instr.sureAddr, Instr.sliceBounds, run_sliceBound, run_sizeOf_ hs, h1, h2, hne, ha]
theorem size_u8 : (Try.prog.info? 5).map (·.size) = some 1 := by
  obtain ⟨i, hi, hz⟩ := Option.map_eq_some_iff.1 info5
  simp only [Prod.mk.injEq] at hz
  rw [hi, Option.map_some, hz.2.1]
theorem C_u8A {w : World} {g t : Nat} {s : List Int} {fr : Nat × Nat} (hb : w.heap[g]? = some (.cells (u8A s) t fr)) (hl : s.length ≤ 9223372036854775807) (k : Nat) (hk : k ≤ s.length) : Kd.C (Kd.int .u8) w (some ⟨g, k, none⟩) (s.drop k).length (s.drop k) :=
  C_mk (by rw [List.length_drop]; omega) (fun hp => ⟨⟨g, k, none⟩, rfl, fun j hj => by
    rw [List.length_drop] at hj
    have e : (⟨g, k, none⟩ : Addr).add j = ⟨g, k + j, none⟩ := by
      unfold Addr.add
      split <;> simp_all
    rw [e]
    simp [World.cell?, hb, u8A, rd, List.getElem?_map]
    rw [List.getElem?_eq_getElem (by omega)]
    simp⟩)
theorem C_sec {w : World} {g t : Nat} {s : List Int} {fr : Nat × Nat} (hb : w.heap[g]? = some (.cells (u8A s) t fr)) (hs : s.length = 128) (k n : Nat) (hk : k ≤ 128) (hn : n = 128 - k) : Kd.C (Kd.int .u8) w (some ⟨g, k, none⟩) n (s.drop k) := by
  have h := C_u8A hb (by omega) k (by omega)
  rw [List.length_drop, hs, ← hn] at h
  exact h
theorem C_seg {w : World} {g t : Nat} {s : List Int} {fr : Nat × Nat} (hb : w.heap[g]? = some (.cells (u8A s) t fr)) (hs : s.length = 128) (k n : Nat) (hk : k + n ≤ 128) : Kd.C (Kd.int .u8) w (some ⟨g, k, none⟩) n ((s.drop k).take n) := by
  have h := Kd.C_take (m := n) (C_u8A hb (by omega) k (by omega)) (by rw [List.length_drop]; omega)
  rw [List.length_take, List.length_drop, hs, Nat.min_eq_left (by omega)] at h
  exact h

-- AUX DK
/-- Two sectors are compared. -/
theorem dk_eql (xs ys : List Int) (hx : xs.length = 128) (hy : ys.length = 128) (w : World) : (Op.equalIn 10000 34 (.agg (u8A xs)) (.agg (u8A ys))).run Try.prog w = .ok (decide (xs = ys)) w :=
  equalIn_u8A 9998 34 128 Try.underlying34 Try.underlying5 size_u8 xs ys hx hy w
theorem dk_info : (Try.prog.info? 34).map (·.size) = some 128 := by kernel_rfl
def sz0 : List Int := List.replicate 128 0
theorem sz0_len : sz0.length = 128 := by simp [sz0]
theorem dk_zero (W : World) : (zeroValue 34).run Try.prog W = .ok (.agg (u8A sz0)) W := by
  have h : (Try.prog.info? 34).map (·.zero) = some (some (.agg (u8A sz0))) := by kernel_rfl
  obtain ⟨i, hi, hz⟩ := Option.map_eq_some_iff.1 h
  simp [zeroValue, typeInfo, hi, hz]
theorem dk_isz {s : List Int} (h : s.length = 128) : (Try.prog.info? 34).map (·.size) = some (u8A s).size := by rw [u8A_size, h]; exact dk_info
theorem map_inj_ {α β : Type} {f : α → β} (hf : ∀ a b, f a = f b → a = b) : ∀ {s t : List α}, s.map f = t.map f → s = t
  | [], [], _ => rfl
  | [], _ :: _, h => by simp at h
  | _ :: _, [], h => by simp at h
  | a :: s, b :: t, h => by
    simp only [List.map_cons, List.cons.injEq] at h
    rw [hf a b h.1, map_inj_ hf h.2]
theorem u8A_inj {s t : List Int} (h : u8A s = u8A t) : s = t := by
  have h : (s.map (Value.int .u8)) = t.map (Value.int .u8) := by simpa [u8A] using h
  exact map_inj_ (fun a b e => by injection e) h
/-- How a sector reads as an element of a map. -/
def secD (s : List Int) : DataW Unit := .agg (s.map fun x => .lit (.int .u8 x))
theorem secD_inj {s t : List Int} (h : secD s = secD t) : s = t := by
  unfold secD at h
  injection h with h
  exact map_inj_ (fun a b e => by injection e with e; injection e) h
open Classical in
noncomputable def secRd (v : Value) : Option (DataW Unit × List MemPlace) := if h : ∃ s : List Int, v = .agg (u8A s) then some (secD h.choose, []) else none
theorem secRd_mk (s : List Int) : secRd (.agg (u8A s)) = some (secD s, []) := by
  have h : ∃ t : List Int, Value.agg (u8A s) = .agg (u8A t) := ⟨s, rfl⟩
  unfold secRd
  rw [dif_pos h]
  have := h.choose_spec
  injection this with this
  rw [← u8A_inj this]
theorem secRd_inv {v : Value} {d : DataW Unit} {ps : List MemPlace} (h : secRd v = some (d, ps)) : ∃ s, v = .agg (u8A s) ∧ d = secD s := by
  unfold secRd at h
  split at h
  · rename_i hh
    injection h with h
    injection h with h1 h2
    exact ⟨_, hh.choose_spec, h1.symm⟩
  · cases h
/-- A map from numbers to sectors, of the call's own: at most so many entries; what it gives. -/
def mapR : Repr (Nat × (Int → List Int)) := ⟨fun w S v x => ∃ (b n : Nat) (D : DataW Unit), v = .map (some b) ∧ S b ∧ n ≤ x.1 ∧ w.ownsMap Try.prog 3 secRd b n D ∧ (∀ i, (x.2 i).length = 128) ∧ ∀ i, (Lit.int .i64 i).wf = true → D.atKey (.int .i64 i) (secD sz0) = secD (x.2 i),
  fun ⟨b, n, D, e, hS, hn, ⟨es, clock, hb, F, hs, hD⟩, hl, ha⟩ k hd => ⟨b, n, D, e, hS, hn, ⟨es, clock, k.same_block hb (hd b hS), F, hs, hD⟩, hl, ha⟩⟩
theorem dk_keyed : Maps.Keyed Try.prog 3 := Maps.int_keyed Try.underlying3
theorem Cx.mapped {B : Nat} {w0 w : World} {m r : List Asr} {v : Value} {x : Nat × (Int → List Int)} (H : Cx B w0 w m) (k : At m (.own mapR v x) r) : ∃ b, v = .map (some b) := by
  obtain ⟨S, ⟨b, n, D, e, _⟩, _⟩ := H.has k
  exact ⟨b, e⟩
theorem Cx.look {B : Nat} {w0 w : World} {m r : List Asr} {b : Nat} {x : Nat × (Int → List Int)} (H : Cx B w0 w m) (k : At m (.own mapR (.map (some b)) x) r) (i : Int) (hi : (Lit.int .i64 i).wf = true) :
    (Instr.lookup 62 (.map (some b)) (.int .i64 i) false).run Try.prog w = .ok (.agg (u8A (x.2 i))) w := by
  obtain ⟨S, ⟨b', n, D, e, _, _, hown, hl, ha⟩, _⟩ := H.has k
  injection e with e
  injection e with e
  subst e
  obtain ⟨v, ps, hrun, hv⟩ := hown.lookup dk_keyed Try.underlying62 (dk_zero w) (secRd_mk sz0) (Maps.keyOf_int_mk Try.underlying3 hi)
  rw [ha i hi] at hv
  obtain ⟨s, rfl, hd⟩ := secRd_inv hv
  rw [secD_inj hd]
  exact hrun
theorem Cx.lookLen {B : Nat} {w0 w : World} {m r : List Asr} {v : Value} {x : Nat × (Int → List Int)} (H : Cx B w0 w m) (k : At m (.own mapR v x) r) (i : Int) : (x.2 i).length = 128 := by
  obtain ⟨S, ⟨b', n, D, e, _, _, hown, hl, ha⟩, _⟩ := H.has k
  exact hl i
/-- A sector is put into a map. -/
def updF (f : Int → List Int) (i : Int) (s : List Int) : Int → List Int := fun j => if j = i then s else f j
theorem Cx.putMap {B : Nat} {w0 w : World} {m r : List Asr} {b : Nat} {x : Nat × (Int → List Int)} (H : Cx B w0 w m) (k : At m (.own mapR (.map (some b)) x) r) (i : Int) (hi : (Lit.int .i64 i).wf = true) (s : List Int) (hs : s.length = 128) (hn : x.1 < 1000000) :
    ∃ w', (Instr.mapUpdate 62 (.map (some b)) (.int .i64 i) (.agg (u8A s))).run Try.prog w = .ok () w' ∧ Cx B w0 w' (.own mapR (.map (some b)) (x.1 + 1, updF x.2 i s) :: r) := by
  obtain ⟨S, ⟨b', n, D, e, hS, hnx, hown, hl, ha⟩, hs2, _, hcl⟩ := (H.find k).open_
  injection e with e
  injection e with e
  subst e
  have hkey := Maps.keyOf_int_mk (P := Try.prog) Try.underlying3 hi
  obtain ⟨w', hrun, ho, hg⟩ := hown.update dk_keyed Try.underlying62 (by unfold maxLen; omega) hkey (secRd_mk s)
  refine ⟨w', hrun, hcl w' [.own mapR (.map (some b)) (x.1 + 1, updF x.2 i s)] (Only.of_grown hg (fun q hq => by injection hq with hq; subst hq; exact hS)) ⟨fun q => q = b, ⟨b, n + 1, _, rfl, rfl, by simp; omega, ho, fun j => ?_, fun j hj => ?_⟩, fun q hq => by subst hq; exact .inl hS, trivial⟩⟩
  · simp only [updF]; split
    · exact hs
    · exact hl j
  · simp only [updF]
    by_cases hij : j = i
    · subst hij
      rw [if_pos rfl]
      obtain ⟨es, clock, _, _, _, rfl⟩ := hown
      exact Maps.atKey_put_same (k := .int .i64 j) ⟨_, rfl⟩ True.intro _ _
    · rw [if_neg hij, Maps.atKey_put_other (fun e => hij (by injection e)) _ _]
      exact ha j hj
theorem Cx.newMap {B : Nat} {w0 w : World} {m r : List Asr} {b : Nat} (H : Cx B w0 w m) (k : At m (.blk b (.map #[] 0)) r) : Cx B w0 w (.own mapR (.map (some b)) (0, fun _ => sz0) :: r) := by
  obtain ⟨S, ha, hs2, _, hcl⟩ := (H.find k).open_
  exact hcl w [.own mapR (.map (some b)) (0, fun _ => sz0)] (Only.refl _ _) ⟨S, ⟨b, 0, .map [], rfl, ha.1, Nat.le_refl _, ⟨#[], 0, ha.2, ⟨by simp, MapKept.stamped_empty 0, by simp⟩, Nat.le_refl _, rfl⟩, fun _ => sz0_len, fun _ _ => rfl⟩, fun q hq => .inl hq, trivial⟩
/-- A write that waits: where, and the sector. -/
def wrC (x : Int × List Int) : List Value := .int .i64 x.1 :: x.2.map (Value.int .u8)
abbrev waitR : Repr (List (Int × List Int)) := bigR 69 129 wrC
/-- How a disk stands. -/
structure Dk where
  steps : Int
  left : Int
  armed : Bool
  gone : Bool
  size : Int
  cnt : Nat
  sure : Int → List Int
  waiting : List (Int × List Int)
/-- A disk, of the call's own. -/
def dkR : Repr Dk := ⟨fun w S v d => ∃ (b : Nat) (A W : Value), v = .pointer (some ⟨b, 0, none⟩) ∧ Aside0 (∀ x ∈ d.waiting, (Lit.int .i64 x.1).wf = true) ∧ Sep w [.blk b (.cells #[.int .i64 d.steps, .int .i64 d.left, .bool d.armed, .bool d.gone, .int .i64 d.size, A, W] 67 (0, 0)), .own mapR A (d.cnt, d.sure), .own waitR W d.waiting] S,
  fun ⟨b, A, W, e, hw, h⟩ k hd => ⟨b, A, W, e, hw, h.only k hd⟩⟩
theorem Cx.openDk {B : Nat} {w0 w : World} {m r : List Asr} {v : Value} {d : Dk} (H : Cx B w0 w m) (k : At m (.own dkR v d) r) :
    ∃ (b : Nat) (A W : Value), v = .pointer (some ⟨b, 0, none⟩) ∧ Aside0 (∀ x ∈ d.waiting, (Lit.int .i64 x.1).wf = true) ∧ Cx B w0 w (.blk b (.cells #[.int .i64 d.steps, .int .i64 d.left, .bool d.armed, .bool d.gone, .int .i64 d.size, A, W] 67 (0, 0)) :: .own mapR A (d.cnt, d.sure) :: .own waitR W d.waiting :: r) := by
  obtain ⟨S, ⟨b, A, W, e, hw, h⟩, _, _, hcl⟩ := (H.find k).open_
  exact ⟨b, A, W, e, hw, hcl w _ (Only.refl _ _) (h.mono fun _ hi => .inl hi)⟩
theorem Cx.closeDk {B : Nat} {w0 w : World} {m r1 r2 r3 : List Asr} {b : Nat} {A W : Value} (d : Dk) (H : Cx B w0 w m)
    (k1 : At m (.blk b (.cells #[.int .i64 d.steps, .int .i64 d.left, .bool d.armed, .bool d.gone, .int .i64 d.size, A, W] 67 (0, 0))) r1) (k2 : At r1 (.own mapR A (d.cnt, d.sure)) r2) (k3 : At r2 (.own waitR W d.waiting) r3) (hw : ∀ x ∈ d.waiting, (Lit.int .i64 x.1).wf = true) :
    Cx B w0 w (.own dkR (.pointer (some ⟨b, 0, none⟩)) d :: r3) := by
  obtain ⟨S1, h1, hs1, hr1⟩ := (H.find k1).sep
  obtain ⟨S2, h2, hs2, hr2⟩ := hr1.find k2
  obtain ⟨S3, h3, hs3, hr3⟩ := hr2.find k3
  refine ⟨H.bel, H.le, fun i => S1 i ∨ S2 i ∨ S3 i, ⟨b, A, W, rfl, ⟨hw⟩, S1, h1, fun i hi => .inl hi, S2, h2, fun i hi => ⟨.inr (.inl hi), (hs2 i hi).2⟩, S3, h3, fun i hi => ⟨⟨.inr (.inr hi), (hs3 i hi).1.2⟩, (hs3 i hi).2⟩, trivial⟩, fun i hi => ?_, hr3.mono fun i hi => ⟨hi.1.1.1, fun hh => ?_⟩⟩
  · rcases hi with hi | hi | hi
    · exact hs1 i hi
    · exact (hs2 i hi).1
    · exact (hs3 i hi).1.1
  · rcases hh with hh | hh | hh
    · exact hi.1.1.2 hh
    · exact hi.1.2 hh
    · exact hi.2 hh
def Dk.off (d : Dk) : Bool := d.gone || (d.armed && decide (d.left = 0))
def Dk.step (d : Dk) : Dk := if d.off = true then { d with gone := true } else { d with left := wrap64 (d.left - 1), steps := wrap64 (d.steps + 1) }
theorem Dk.step_rest (d : Dk) : d.step.size = d.size ∧ d.step.cnt = d.cnt ∧ d.step.sure = d.sure ∧ d.step.waiting = d.waiting ∧ d.step.armed = d.armed := by
  unfold Dk.step; split <;> exact ⟨rfl, rfl, rfl, rfl, rfl⟩
def Dk.has (d : Dk) (i : Int) : Bool := decide (0 ≤ i ∧ i < d.size)
set_option maxRecDepth 100000 in
/-- A step. -/
theorem dk_step {B : Nat} {w0 w : World} {m r : List Asr} {b : Nat} {A W : Value} {st lf sz : Int} {ar gn : Bool} (H : Cx B w0 w m) (k : At m (.blk b (.cells #[.int .i64 st, .int .i64 lf, .bool ar, .bool gn, .int .i64 sz, A, W] 67 (0, 0))) r) :
    Calls Try.prog 29 #[.pointer (some ⟨b, 0, none⟩)] w fun e w1 => (gn = true ∨ (ar = true ∧ lf = 0)) ∧ e = .returned (.bool false) ∧ Cx B w0 w1 (.blk b (.cells #[.int .i64 st, .int .i64 lf, .bool ar, .bool true, .int .i64 sz, A, W] 67 (0, 0)) :: r) ∨
      (gn = false ∧ ¬ (ar = true ∧ lf = 0)) ∧ e = .returned (.bool true) ∧ Cx B w0 w1 (.blk b (.cells #[.int .i64 (wrap64 (st + 1)), .int .i64 (wrap64 (lf - 1)), .bool ar, .bool false, .int .i64 sz, A, W] 67 (0, 0)) :: r) := by
  have H0 := H.find k
  clear H k
  have F := H0.facts
  simp only [factsOf, Asr.facts, blkFacts, cellsAre, List.toList_toArray, forall_const, Nat.zero_add, Nat.reduceAdd, and_true, true_and] at F
  replace F := F.1
  cases gn
  · cases ar
    · go_enter Try.func29, Try.ntmps29
      go_wp2
      ((try simp only [Exit.inBlock, Exit.then]); (apply Cx.atPost); (focus ((repeat (with_reducible (first | exact (H0).toS | exact At.here | apply At.there | apply CxS.drewN | apply CxS.drew | apply CxS.alloc | apply CxS.set | apply CxS.setRow))))); intro H1)
      try simp only [List.setIfInBounds_toArray, List.set_cons_zero, List.set_cons_succ] at H1
      go_ret
      exact .inr ⟨by first | trivial | simp, by first | trivial | rfl, H1⟩
    · by_cases hl : lf = 0
      · subst hl
        go_enter Try.func29, Try.ntmps29
        go_wp2
        ((try simp only [Exit.inBlock, Exit.then]); (apply Cx.atPost); (focus ((repeat (with_reducible (first | exact (H0).toS | exact At.here | apply At.there | apply CxS.drewN | apply CxS.drew | apply CxS.alloc | apply CxS.set | apply CxS.setRow))))); intro H1)
        try simp only [List.setIfInBounds_toArray, List.set_cons_zero, List.set_cons_succ] at H1
        go_ret
        exact .inl ⟨by first | trivial | simp, by first | trivial | rfl, H1⟩
      · go_enter Try.func29, Try.ntmps29
        go_wp2
        ((try simp only [Exit.inBlock, Exit.then]); (apply Cx.atPost); (focus ((repeat (with_reducible (first | exact (H0).toS | exact At.here | apply At.there | apply CxS.drewN | apply CxS.drew | apply CxS.alloc | apply CxS.set | apply CxS.setRow))))); intro H1)
        try simp only [List.setIfInBounds_toArray, List.set_cons_zero, List.set_cons_succ] at H1
        go_ret
        exact .inr ⟨by first | trivial | simp [hl], by first | trivial | rfl, H1⟩
  · go_enter Try.func29, Try.ntmps29
    go_wp2
    ((try simp only [Exit.inBlock, Exit.then]); (apply Cx.atPost); (focus ((repeat (with_reducible (first | exact (H0).toS | exact At.here | apply At.there | apply CxS.drewN | apply CxS.drew | apply CxS.alloc | apply CxS.set | apply CxS.setRow))))); intro H1)
    try simp only [List.setIfInBounds_toArray, List.set_cons_zero, List.set_cons_succ] at H1
    go_ret
    exact .inl ⟨by first | trivial | simp, by first | trivial | rfl, H1⟩
theorem dk_has {B : Nat} {w0 w : World} {m r : List Asr} {b : Nat} {A W : Value} {st lf sz : Int} {ar gn : Bool} (i : Int) (H : Cx B w0 w m) (k : At m (.blk b (.cells #[.int .i64 st, .int .i64 lf, .bool ar, .bool gn, .int .i64 sz, A, W] 67 (0, 0))) r) :
    Calls Try.prog 28 #[.pointer (some ⟨b, 0, none⟩), .int .i64 i] w fun e w1 => e = .returned (.bool (decide (0 ≤ i ∧ i < sz))) ∧ w1 = w := by
  have H0 := H.find k
  clear H k
  have F := H0.facts
  simp only [factsOf, Asr.facts, blkFacts, cellsAre, List.toList_toArray, forall_const, Nat.zero_add, Nat.reduceAdd, and_true, true_and] at F
  replace F := F.1
  have hu := Try.underlying26
  by_cases h0 : 0 ≤ i
  · go_enter Try.func28, Try.ntmps28
    go_wp2
    go_ret
    simp [h0]
  · go_enter Try.func28, Try.ntmps28
    go_wp2
    go_ret
    simp; omega

-- AUX DKW
theorem dk_info2 : (Try.prog.info? 69).map (fun i => (i.zero, i.size, i.bytes)) = some (some (.agg (wrC (0, sz0)).toArray), 129, 136) := by kernel_rfl
theorem wrC_len (x : Int × List Int) (h : x.2.length = 128) : (wrC x).length = 129 := by simp [wrC, h]
theorem wrC_one (x : Int × List Int) : ∀ u ∈ wrC x, u.oneCell' = true := by
  intro u hu
  simp only [wrC, List.mem_cons, List.mem_map] at hu
  rcases hu with rfl | ⟨y, _, rfl⟩ <;> rfl
/-- A write, put together. -/
theorem dk_build (i : Int) (s : List Int) (hs : s.length = 128) (W : World) : (Instr.build 69 #[(0, .int .i64 i), (1, .agg (u8A s))]).run Try.prog W = .ok (.agg (wrC (i, s)).toArray) W := by
  refine run_build W _ _ _ ?_
  obtain ⟨it, hi, hz⟩ := Option.map_eq_some_iff.1 dk_info2
  simp only [Prod.mk.injEq] at hz
  have hp : (match Try.prog.underlying 69 with | some (.struct fields) => fields.toList.mapM (fun f => (Try.prog.info? f.type).map fun i => (f.offset, i.size)) | _ => none) = some [(0, 1), (1, 128)] := by kernel_rfl
  unfold Program.built
  simp only [hi, Try.underlying69, hz.1] at hp ⊢
  rw [hp]
  simp only [Value.cells]
  rw [fill_cons (off := 0) (size := 1) (by rfl) (by rfl) (by simp [wrC]), fill_cons (off := 1) (size := 128) (by rfl) (by simp [Value.cells, u8A_size, hs]) (by simp [putAt, wrC, Value.cells, sz0])]
  unfold Instr.fill
  simp [putAt, wrC, Value.cells, u8A, sz0, hs]
theorem dk_zerob (W : World) : (Instr.build 34 #[]).run Try.prog W = .ok (.agg (u8A sz0)) W := by
  refine run_build W _ _ _ ?_
  have h : (Try.prog.info? 34).map (·.zero) = some (some (.agg (u8A sz0))) := by kernel_rfl
  obtain ⟨i, hi, hz⟩ := Option.map_eq_some_iff.1 h
  have h2 : (Try.prog.info? 5).isSome = true := by kernel_rfl
  obtain ⟨j, hj⟩ := Option.isSome_iff_exists.1 h2
  unfold Program.built
  simp only [hi, Try.underlying34, hz, hj]
  unfold Instr.fill
  rfl
theorem dk_slice1 (x : Int × List Int) (hx : x.2.length = 128) (W : World) : (Instr.buildSlice 65 1 #[(0, .agg (wrC x).toArray)]).run Try.prog W = .ok (.slice (some ⟨W.heap.size, 0, none⟩) 1 1) (W.alloc (.cells (wrC x).toArray 69)) :=
  run_buildSlice_one W 65 69 129 (.agg (wrC x).toArray) (.agg (wrC (0, sz0)).toArray) Try.underlying65 (by
    obtain ⟨it, hi, hz⟩ := Option.map_eq_some_iff.1 dk_info2
    simp only [Prod.mk.injEq] at hz
    rw [hi, Option.map_some, hz.1, hz.2.1]) (by simp [Value.cells, wrC, sz0]) (by simp [Value.cells, wrC, hx]) (by decide) (by decide)
def Dk.writeE (d : Dk) (i : Int) : Option Int := if d.has i = true then (if d.off = true then some 3 else none) else some 1
def Dk.write (d : Dk) (i : Int) (s : List Int) : Dk := if d.has i = true then (if d.off = true then d.step else { d.step with waiting := d.waiting ++ [(i, s)] }) else d
set_option maxRecDepth 100000 in
set_option maxHeartbeats 4000000 in
theorem dk_write {B : Nat} {w0 w : World} {m r : List Asr} {v : Value} {d : Dk} (i : Int) (s : List Int) (hi : (Lit.int .i64 i).wf = true) (H : Cx B w0 w m) (k : At m (.own dkR v d) r) (hs : s.length = 128) (hl : d.waiting.length < 100000) :
    Calls Try.prog 12 #[v, .int .i64 i, .agg (u8A s)] w fun e w1 => e = .returned (errW (d.writeE i)) ∧ Cx B w0 w1 (.own dkR v (d.write i s) :: r) := by
  obtain ⟨b, A, W, rfl, HWF, H0⟩ := H.openDk k
  clear H k
  have HS := Aside0.mk hs
  have HI := Aside0.mk hi
  have HL := Aside0.mk hl
  have u8sz := dk_isz hs
  have h56 := Try.underlying56
  have h26 := Try.underlying26
  have hb1 := fun W => dk_build i s hs W
  have hb2 := fun W => dk_slice1 (i, s) hs W
  clear hs hl hi
  have F := (H0).facts; simp only [factsOf, Asr.facts, blkFacts, cellsAre, List.toList_toArray, forall_const, Nat.zero_add, Nat.reduceAdd, and_true, true_and] at F
  go_enter Try.func12, Try.ntmps12
  go_wp2_with fail
  (apply Cx.atCall; (focus ((repeat (with_reducible (first | exact (H0).toS | exact At.here | apply At.there | apply CxS.drewN | apply CxS.drew | apply CxS.alloc | apply CxS.set | apply CxS.setRow))))); intro H1)
  refine (dk_has i H1 (by repeat (with_reducible (first | exact At.here | apply At.there)))).mono ?_
  rintro e w1 ⟨rfl, rfl⟩
  clear H0 F
  have hoff : d.off = (d.gone || (d.armed && decide (d.left = 0))) := rfl
  by_cases hh : 0 ≤ i ∧ i < d.size
  · rw [decide_eq_true hh]
    go_wp2_with fail
    (apply Cx.atCall; (focus ((repeat (with_reducible (first | exact (H1).toS | exact At.here | apply At.there | apply CxS.drewN | apply CxS.drew | apply CxS.alloc | apply CxS.set | apply CxS.setRow))))); intro H2)
    refine (dk_step H2 (by repeat (with_reducible (first | exact At.here | apply At.there)))).mono ?_
    rintro e w1 (⟨hq, rfl, H3⟩ | ⟨hq, rfl, H3⟩)
    · go_wp2
      ((try simp only [Exit.inBlock, Exit.then]); (apply Cx.atPost); (focus ((repeat (with_reducible (first | exact (H3).toS | exact At.here | apply At.there | apply CxS.drewN | apply CxS.drew | apply CxS.alloc | apply CxS.set | apply CxS.setRow))))); intro H4)
      go_ret
      refine ⟨?_, ?_⟩
      · have : d.off = true := by rw [hoff]; simpa using hq
        simp [Dk.writeE, Dk.has, hh, this, errW]
      · have h2 : d.write i s = { d with gone := true } := by have : d.off = true := (by rw [hoff]; simpa using hq); simp [Dk.write, Dk.has, hh, this, Dk.step]
        rw [h2]
        exact H4.drop (a := .blk w.heap.size (.cells (u8A s) 34 (0, 0))) (by repeat (with_reducible (first | exact At.here | apply At.there))) |>.closeDk { d with gone := true } (by repeat (with_reducible (first | exact At.here | apply At.there))) (by repeat (with_reducible (first | exact At.here | apply At.there))) (by repeat (with_reducible (first | exact At.here | apply At.there))) HWF.out
    · have hof : d.off = false := by
        rw [hoff]
        obtain ⟨h1, h2⟩ := hq
        simp only [h1, Bool.false_or, Bool.and_eq_false_iff, decide_eq_false_iff_not]
        by_cases ha : d.armed = true
        · exact .inr fun h => h2 ⟨ha, h⟩
        · exact .inl (by simpa using ha)
      have hwr : d.write i s = { d with left := wrap64 (d.left - 1), steps := wrap64 (d.steps + 1), gone := false, waiting := d.waiting ++ [(i, s)] } := by simp [Dk.write, Dk.has, hh, hof, Dk.step, hq.1]
      have hwe : errW (d.writeE i) = .nilIface := by simp [Dk.writeE, Dk.has, hh, hof, errW]
      go_wp2
      have hb3 : (Instr.buildSlice 65 1 #[(0, .agg (wrC (i, s)).toArray)]).run Try.prog w1.drew = .ok (.slice (some ⟨w1.heap.size, 0, none⟩) 1 1) (w1.drew.alloc (.cells (wrC (i, s)).toArray 69)) := hb2 w1.drew
      have hys : ∀ y ∈ [(i, s)], (wrC y).length = 129 := fun y hy => by rw [List.mem_singleton] at hy; subst hy; exact wrC_len _ HS.out
      have hone : ∀ u ∈ [(i, s)].flatMap wrC, u.oneCell' = true := by rw [List.flatMap_singleton]; exact wrC_one _
      have hnews : ∀ W' : World, W'.heap[w1.heap.size]? = some (.cells (wrC (i, s)).toArray 69 (0, 0)) → ∀ j u, ([(i, s)].flatMap wrC)[j]? = some u → W'.cell? ((⟨w1.heap.size, 0, none⟩ : Addr).add j) = some u := fun W' hW j u hu => by rw [Addr.add_mid, Nat.zero_add, cell_of hW]; rw [List.flatMap_singleton] at hu; simpa using hu
      have hrange : w1.drew.rangeAt w.heap.size 0 (s.map (Value.int .u8)) := fun j v hv => by have hq := H3.blk (b := w.heap.size) (o := .cells (u8A s) 34 (0, 0)) (by repeat (with_reducible (first | exact At.here | apply At.there))); rw [World.cell?_drew, Nat.zero_add, cell_of hq]; simpa [u8A] using hv
      have F := (H3).facts; simp only [factsOf, Asr.facts, blkFacts, cellsAre, List.toList_toArray, forall_const, Nat.zero_add, Nat.reduceAdd, and_true, true_and] at F
      refine wp_region_any (by kernel_rfl) ?_
      change wpAny _ _ _ _ _ _ _ (World.drew _)
      (refine wpAny_take (i := 0) (v := ?_) rfl (by kernel_rfl) (by kernel_rfl) (by kernel_rfl) (fun _ _ _ h => h) (Or.inl ⟨by rfl, ?_⟩) ?_; rotate_left; (focus (intro w; go_simp; try (with_reducible rfl))); try simp only [Act.put, List.setIfInBounds_toArray, List.set_cons_zero, List.set_cons_succ])
      (refine wpAny_take (i := 1) (v := ?_) rfl (by kernel_rfl) (by kernel_rfl) (by kernel_rfl) (fun _ _ _ h => h) (Or.inl ⟨by rfl, ?_⟩) ?_; rotate_left; (focus (intro w; go_simp; try (with_reducible rfl))); try simp only [Act.put, List.setIfInBounds_toArray, List.set_cons_zero, List.set_cons_succ])
      (refine wpAny_take (i := 2) (v := ?_) rfl (by kernel_rfl) (by kernel_rfl) (by kernel_rfl) (fun _ _ _ h => h) (Or.inl ⟨by rfl, ?_⟩) ?_; rotate_left; (focus (intro w; go_simp; try (with_reducible rfl))); try simp only [Act.put, List.setIfInBounds_toArray, List.set_cons_zero, List.set_cons_succ])
      (refine wpAny_take (i := 3) (v := ?_) rfl (by kernel_rfl) (by kernel_rfl) (by kernel_rfl) (fun _ _ _ h => h) (Or.inl ⟨by rfl, ?_⟩) ?_; rotate_left; (focus (intro w; go_simp; try (with_reducible rfl))); try simp only [Act.put, List.setIfInBounds_toArray, List.set_cons_zero, List.set_cons_succ])
      (refine wpAny_take (i := 5) (v := ?_) rfl (by kernel_rfl) (by kernel_rfl) (by kernel_rfl) (fun _ _ _ h => h) (Or.inl ⟨by rfl, ?_⟩) ?_; rotate_left; (focus (intro w; go_simp; try (with_reducible rfl))); try simp only [Act.put, List.setIfInBounds_toArray, List.set_cons_zero, List.set_cons_succ])
      refine wpAny_ready (rs := [4, 6]) (by kernel_rfl) (by simp) ?_
      refine AllReady.cons rfl (fun K hK => ?_) (AllReady.cons rfl (fun K hK => ?_) AllReady.nil)
      · go_simp
        (refine hK _ _ ?_; clear hK K; try simp only [List.getElem_toArray, List.getElem_cons_succ, List.getElem_cons_zero, Act.put, List.setIfInBounds_toArray, List.set_cons_zero, List.set_cons_succ])
        refine wpAny_ready (rs := [6]) (by kernel_rfl) (by simp) ?_
        refine AllReady.cons rfl (fun K hK => ?_) AllReady.nil
        rw [if_pos (by rfl)]
        refine wp_load_mid 34 (.tmp 5) rfl w.heap.size 0 rfl (s.map (Value.int .u8)) _ hrange Try.underlying34 rfl (by rw [List.length_map, HS.out]; exact dk_info) ?_
        (refine hK _ _ ?_; clear hK K; try simp only [List.getElem_toArray, List.getElem_cons_succ, List.getElem_cons_zero, Act.put, List.setIfInBounds_toArray, List.set_cons_zero, List.set_cons_succ])
        (refine wpAny_take (i := 7) (v := .agg (wrC (i, s)).toArray) rfl (by kernel_rfl) (by kernel_rfl) (by kernel_rfl) (fun _ _ _ h => h) (Or.inl ⟨by rfl, fun W => exec_build 69 #[(0, .tmp 29), (1, .tmp 30)] rfl #[(0, .int .i64 i), (1, .agg (u8A s))] rfl (hb1 W)⟩) ?_; simp only [Act.put, List.setIfInBounds_toArray, List.set_cons_zero, List.set_cons_succ])
        refine wpAny_ready (rs := [8]) (by kernel_rfl) (by simp) ?_
        refine AllReady.cons rfl (fun K hK => ?_) AllReady.nil
        refine step_exec rfl (exec_buildSlice 65 1 #[(0, .tmp 31)] rfl #[(0, .agg (wrC (i, s)).toArray)] rfl hb3) ?_
        (refine hK _ _ ?_; clear hK K; try simp only [List.getElem_toArray, List.getElem_cons_succ, List.getElem_cons_zero, Act.put, List.setIfInBounds_toArray, List.set_cons_zero, List.set_cons_succ])
        refine wpAny_ready (rs := [9]) (by kernel_rfl) (by simp) ?_
        refine AllReady.cons rfl (fun K hK => ?_) AllReady.nil
        refine gate_step (b := .append) (xs := #[.tmp 28, .tmp 32]) rfl ?_
        (apply Cx.atStep); (focus ((repeat (with_reducible (first | exact (H3).toS | exact At.here | apply At.there | apply CxS.drewN | apply CxS.drew | apply CxS.alloc | apply CxS.set | apply CxS.setRow))))); intro HT
        obtain ⟨v', w', hrun, hiff, H5⟩ := HT.app_big (e := 69) (size := 129) (enc := wrC) (v := W) (xs := d.waiting) (by repeat (with_reducible (first | exact At.here | apply At.there))) (P := Try.prog) 65 65 Try.underlying65 dk_info2 (by simp [Value.cells, wrC, sz0]) (by decide) (by decide) [(i, s)] ⟨w1.heap.size, 0, none⟩ 1 1 rfl hys (hnews _ (HT.blk (by repeat (with_reducible (first | exact At.here | apply At.there))))) hone (by have := HL.out; simp; omega)
        obtain ⟨L, hL⟩ : ∃ L, d.waiting ++ [(i, s)] = L := ⟨_, rfl⟩
        rw [hL] at H5
        have HLL := Aside0.mk hL
        clear hL
        obtain ⟨A2, c2, rfl, _, _⟩ := H5.bigLen (by repeat (with_reducible (first | exact At.here | apply At.there)))
        refine append_step_run rfl (.tmp 28) (.tmp 32) 65 65 rfl _ _ _ rfl rfl hrun ?_
        (refine hK _ _ ?_; clear hK K; try simp only [List.getElem_toArray, List.getElem_cons_succ, List.getElem_cons_zero, Act.put, List.setIfInBounds_toArray, List.set_cons_zero, List.set_cons_succ])
        clear hrun F
        have F := (H5).facts; simp only [factsOf, Asr.facts, blkFacts, cellsAre, List.toList_toArray, forall_const, Nat.zero_add, Nat.reduceAdd, and_true, true_and] at F
        (refine wpAny_take (i := 10) (v := ?_) rfl (by kernel_rfl) (by kernel_rfl) (by kernel_rfl) (fun _ _ _ h => h) (Or.inl ⟨by rfl, ?_⟩) ?_; rotate_left; (focus (intro w; go_simp; try (with_reducible rfl))); try simp only [Act.put, List.setIfInBounds_toArray, List.set_cons_zero, List.set_cons_succ])
        (refine wpAny_take (i := 11) (v := ?_) rfl (by kernel_rfl) (by kernel_rfl) (by kernel_rfl) (fun _ _ _ h => h) (Or.inl ⟨by rfl, ?_⟩) ?_; rotate_left; (focus (intro w; go_simp; try (with_reducible rfl))); try simp only [Act.put, List.setIfInBounds_toArray, List.set_cons_zero, List.set_cons_succ])
        refine wpAny_ready (rs := [12]) (by kernel_rfl) (by simp) ?_
        refine AllReady.cons rfl (fun K hK => ?_) AllReady.nil
        go_simp
        (refine hK _ _ ?_; clear hK K; try simp only [List.getElem_toArray, List.getElem_cons_succ, List.getElem_cons_zero, Act.put, List.setIfInBounds_toArray, List.set_cons_zero, List.set_cons_succ])
        refine wpAny_done (by kernel_rfl) ?_ _
        go_wp2
        ((try simp only [Exit.inBlock, Exit.then]); (apply Cx.atPost); (focus ((repeat (with_reducible (first | exact (H5).toS | exact At.here | apply At.there | apply CxS.drewN | apply CxS.drew | apply CxS.alloc | apply CxS.set | apply CxS.setRow))))); intro H6)
        go_ret
        try simp only [List.setIfInBounds_toArray, List.set_cons_zero, List.set_cons_succ] at H6
        refine ⟨by rw [hwe]; rfl, ?_⟩
        rw [hwr, HLL.out]
        exact ((H6.drop (a := .blk w.heap.size (.cells (u8A s) 34 (0, 0))) (by repeat (with_reducible (first | exact At.here | apply At.there)))).drop (a := .blk w1.heap.size (.cells (wrC (i, s)).toArray 69 (0, 0))) (by repeat (with_reducible (first | exact At.here | apply At.there)))).closeDk { d with left := wrap64 (d.left - 1), steps := wrap64 (d.steps + 1), gone := false, waiting := L } (by repeat (with_reducible (first | exact At.here | apply At.there))) (by repeat (with_reducible (first | exact At.here | apply At.there))) (by repeat (with_reducible (first | exact At.here | apply At.there))) (by rw [← HLL.out]; intro x hx; rcases List.mem_append.1 hx with h | h; exact HWF.out x h; rw [List.mem_singleton] at h; subst h; exact HI.out)
      · rw [if_pos (by rfl)]
        refine wp_load_mid 34 (.tmp 5) rfl w.heap.size 0 rfl (s.map (Value.int .u8)) _ hrange Try.underlying34 rfl (by rw [List.length_map, HS.out]; exact dk_info) ?_
        (refine hK _ _ ?_; clear hK K; try simp only [List.getElem_toArray, List.getElem_cons_succ, List.getElem_cons_zero, Act.put, List.setIfInBounds_toArray, List.set_cons_zero, List.set_cons_succ])
        (refine wpAny_take (i := 7) (v := .agg (wrC (i, s)).toArray) rfl (by kernel_rfl) (by kernel_rfl) (by kernel_rfl) (fun _ _ _ h => h) (Or.inl ⟨by rfl, fun W => exec_build 69 #[(0, .tmp 29), (1, .tmp 30)] rfl #[(0, .int .i64 i), (1, .agg (u8A s))] rfl (hb1 W)⟩) ?_; simp only [Act.put, List.setIfInBounds_toArray, List.set_cons_zero, List.set_cons_succ])
        refine wpAny_ready (rs := [4, 8]) (by kernel_rfl) (by simp) ?_
        refine AllReady.cons rfl (fun K hK => ?_) (AllReady.cons rfl (fun K hK => ?_) AllReady.nil)
        · go_simp
          (refine hK _ _ ?_; clear hK K; try simp only [List.getElem_toArray, List.getElem_cons_succ, List.getElem_cons_zero, Act.put, List.setIfInBounds_toArray, List.set_cons_zero, List.set_cons_succ])
          refine wpAny_ready (rs := [8]) (by kernel_rfl) (by simp) ?_
          refine AllReady.cons rfl (fun K hK => ?_) AllReady.nil
          refine step_exec rfl (exec_buildSlice 65 1 #[(0, .tmp 31)] rfl #[(0, .agg (wrC (i, s)).toArray)] rfl hb3) ?_
          (refine hK _ _ ?_; clear hK K; try simp only [List.getElem_toArray, List.getElem_cons_succ, List.getElem_cons_zero, Act.put, List.setIfInBounds_toArray, List.set_cons_zero, List.set_cons_succ])
          refine wpAny_ready (rs := [9]) (by kernel_rfl) (by simp) ?_
          refine AllReady.cons rfl (fun K hK => ?_) AllReady.nil
          refine gate_step (b := .append) (xs := #[.tmp 28, .tmp 32]) rfl ?_
          (apply Cx.atStep); (focus ((repeat (with_reducible (first | exact (H3).toS | exact At.here | apply At.there | apply CxS.drewN | apply CxS.drew | apply CxS.alloc | apply CxS.set | apply CxS.setRow))))); intro HT
          obtain ⟨v', w', hrun, hiff, H5⟩ := HT.app_big (e := 69) (size := 129) (enc := wrC) (v := W) (xs := d.waiting) (by repeat (with_reducible (first | exact At.here | apply At.there))) (P := Try.prog) 65 65 Try.underlying65 dk_info2 (by simp [Value.cells, wrC, sz0]) (by decide) (by decide) [(i, s)] ⟨w1.heap.size, 0, none⟩ 1 1 rfl hys (hnews _ (HT.blk (by repeat (with_reducible (first | exact At.here | apply At.there))))) hone (by have := HL.out; simp; omega)
          obtain ⟨L, hL⟩ : ∃ L, d.waiting ++ [(i, s)] = L := ⟨_, rfl⟩
          rw [hL] at H5
          have HLL := Aside0.mk hL
          clear hL
          obtain ⟨A2, c2, rfl, _, _⟩ := H5.bigLen (by repeat (with_reducible (first | exact At.here | apply At.there)))
          refine append_step_run rfl (.tmp 28) (.tmp 32) 65 65 rfl _ _ _ rfl rfl hrun ?_
          (refine hK _ _ ?_; clear hK K; try simp only [List.getElem_toArray, List.getElem_cons_succ, List.getElem_cons_zero, Act.put, List.setIfInBounds_toArray, List.set_cons_zero, List.set_cons_succ])
          clear hrun F
          have F := (H5).facts; simp only [factsOf, Asr.facts, blkFacts, cellsAre, List.toList_toArray, forall_const, Nat.zero_add, Nat.reduceAdd, and_true, true_and] at F
          (refine wpAny_take (i := 10) (v := ?_) rfl (by kernel_rfl) (by kernel_rfl) (by kernel_rfl) (fun _ _ _ h => h) (Or.inl ⟨by rfl, ?_⟩) ?_; rotate_left; (focus (intro w; go_simp; try (with_reducible rfl))); try simp only [Act.put, List.setIfInBounds_toArray, List.set_cons_zero, List.set_cons_succ])
          (refine wpAny_take (i := 11) (v := ?_) rfl (by kernel_rfl) (by kernel_rfl) (by kernel_rfl) (fun _ _ _ h => h) (Or.inl ⟨by rfl, ?_⟩) ?_; rotate_left; (focus (intro w; go_simp; try (with_reducible rfl))); try simp only [Act.put, List.setIfInBounds_toArray, List.set_cons_zero, List.set_cons_succ])
          refine wpAny_ready (rs := [12]) (by kernel_rfl) (by simp) ?_
          refine AllReady.cons rfl (fun K hK => ?_) AllReady.nil
          go_simp
          (refine hK _ _ ?_; clear hK K; try simp only [List.getElem_toArray, List.getElem_cons_succ, List.getElem_cons_zero, Act.put, List.setIfInBounds_toArray, List.set_cons_zero, List.set_cons_succ])
          refine wpAny_done (by kernel_rfl) ?_ _
          go_wp2
          ((try simp only [Exit.inBlock, Exit.then]); (apply Cx.atPost); (focus ((repeat (with_reducible (first | exact (H5).toS | exact At.here | apply At.there | apply CxS.drewN | apply CxS.drew | apply CxS.alloc | apply CxS.set | apply CxS.setRow))))); intro H6)
          go_ret
          try simp only [List.setIfInBounds_toArray, List.set_cons_zero, List.set_cons_succ] at H6
          refine ⟨by rw [hwe]; rfl, ?_⟩
          rw [hwr, HLL.out]
          exact ((H6.drop (a := .blk w.heap.size (.cells (u8A s) 34 (0, 0))) (by repeat (with_reducible (first | exact At.here | apply At.there)))).drop (a := .blk w1.heap.size (.cells (wrC (i, s)).toArray 69 (0, 0))) (by repeat (with_reducible (first | exact At.here | apply At.there)))).closeDk { d with left := wrap64 (d.left - 1), steps := wrap64 (d.steps + 1), gone := false, waiting := L } (by repeat (with_reducible (first | exact At.here | apply At.there))) (by repeat (with_reducible (first | exact At.here | apply At.there))) (by repeat (with_reducible (first | exact At.here | apply At.there))) (by rw [← HLL.out]; intro x hx; rcases List.mem_append.1 hx with h | h; exact HWF.out x h; rw [List.mem_singleton] at h; subst h; exact HI.out)
        · refine step_exec rfl (exec_buildSlice 65 1 #[(0, .tmp 31)] rfl #[(0, .agg (wrC (i, s)).toArray)] rfl hb3) ?_
          (refine hK _ _ ?_; clear hK K; try simp only [List.getElem_toArray, List.getElem_cons_succ, List.getElem_cons_zero, Act.put, List.setIfInBounds_toArray, List.set_cons_zero, List.set_cons_succ])
          refine wpAny_ready (rs := [4]) (by kernel_rfl) (by simp) ?_
          refine AllReady.cons rfl (fun K hK => ?_) AllReady.nil
          go_simp
          (refine hK _ _ ?_; clear hK K; try simp only [List.getElem_toArray, List.getElem_cons_succ, List.getElem_cons_zero, Act.put, List.setIfInBounds_toArray, List.set_cons_zero, List.set_cons_succ])
          refine wpAny_ready (rs := [9]) (by kernel_rfl) (by simp) ?_
          refine AllReady.cons rfl (fun K hK => ?_) AllReady.nil
          refine gate_step (b := .append) (xs := #[.tmp 28, .tmp 32]) rfl ?_
          (apply Cx.atStep); (focus ((repeat (with_reducible (first | exact (H3).toS | exact At.here | apply At.there | apply CxS.drewN | apply CxS.drew | apply CxS.alloc | apply CxS.set | apply CxS.setRow))))); intro HT
          obtain ⟨v', w', hrun, hiff, H5⟩ := HT.app_big (e := 69) (size := 129) (enc := wrC) (v := W) (xs := d.waiting) (by repeat (with_reducible (first | exact At.here | apply At.there))) (P := Try.prog) 65 65 Try.underlying65 dk_info2 (by simp [Value.cells, wrC, sz0]) (by decide) (by decide) [(i, s)] ⟨w1.heap.size, 0, none⟩ 1 1 rfl hys (hnews _ (HT.blk (by repeat (with_reducible (first | exact At.here | apply At.there))))) hone (by have := HL.out; simp; omega)
          obtain ⟨L, hL⟩ : ∃ L, d.waiting ++ [(i, s)] = L := ⟨_, rfl⟩
          rw [hL] at H5
          have HLL := Aside0.mk hL
          clear hL
          obtain ⟨A2, c2, rfl, _, _⟩ := H5.bigLen (by repeat (with_reducible (first | exact At.here | apply At.there)))
          refine append_step_run rfl (.tmp 28) (.tmp 32) 65 65 rfl _ _ _ rfl rfl hrun ?_
          (refine hK _ _ ?_; clear hK K; try simp only [List.getElem_toArray, List.getElem_cons_succ, List.getElem_cons_zero, Act.put, List.setIfInBounds_toArray, List.set_cons_zero, List.set_cons_succ])
          clear hrun F
          have F := (H5).facts; simp only [factsOf, Asr.facts, blkFacts, cellsAre, List.toList_toArray, forall_const, Nat.zero_add, Nat.reduceAdd, and_true, true_and] at F
          (refine wpAny_take (i := 10) (v := ?_) rfl (by kernel_rfl) (by kernel_rfl) (by kernel_rfl) (fun _ _ _ h => h) (Or.inl ⟨by rfl, ?_⟩) ?_; rotate_left; (focus (intro w; go_simp; try (with_reducible rfl))); try simp only [Act.put, List.setIfInBounds_toArray, List.set_cons_zero, List.set_cons_succ])
          (refine wpAny_take (i := 11) (v := ?_) rfl (by kernel_rfl) (by kernel_rfl) (by kernel_rfl) (fun _ _ _ h => h) (Or.inl ⟨by rfl, ?_⟩) ?_; rotate_left; (focus (intro w; go_simp; try (with_reducible rfl))); try simp only [Act.put, List.setIfInBounds_toArray, List.set_cons_zero, List.set_cons_succ])
          refine wpAny_ready (rs := [12]) (by kernel_rfl) (by simp) ?_
          refine AllReady.cons rfl (fun K hK => ?_) AllReady.nil
          go_simp
          (refine hK _ _ ?_; clear hK K; try simp only [List.getElem_toArray, List.getElem_cons_succ, List.getElem_cons_zero, Act.put, List.setIfInBounds_toArray, List.set_cons_zero, List.set_cons_succ])
          refine wpAny_done (by kernel_rfl) ?_ _
          go_wp2
          ((try simp only [Exit.inBlock, Exit.then]); (apply Cx.atPost); (focus ((repeat (with_reducible (first | exact (H5).toS | exact At.here | apply At.there | apply CxS.drewN | apply CxS.drew | apply CxS.alloc | apply CxS.set | apply CxS.setRow))))); intro H6)
          go_ret
          try simp only [List.setIfInBounds_toArray, List.set_cons_zero, List.set_cons_succ] at H6
          refine ⟨by rw [hwe]; rfl, ?_⟩
          rw [hwr, HLL.out]
          exact ((H6.drop (a := .blk w.heap.size (.cells (u8A s) 34 (0, 0))) (by repeat (with_reducible (first | exact At.here | apply At.there)))).drop (a := .blk w1.heap.size (.cells (wrC (i, s)).toArray 69 (0, 0))) (by repeat (with_reducible (first | exact At.here | apply At.there)))).closeDk { d with left := wrap64 (d.left - 1), steps := wrap64 (d.steps + 1), gone := false, waiting := L } (by repeat (with_reducible (first | exact At.here | apply At.there))) (by repeat (with_reducible (first | exact At.here | apply At.there))) (by repeat (with_reducible (first | exact At.here | apply At.there))) (by rw [← HLL.out]; intro x hx; rcases List.mem_append.1 hx with h | h; exact HWF.out x h; rw [List.mem_singleton] at h; subst h; exact HI.out)
  · rw [decide_eq_false hh]
    go_wp2
    ((try simp only [Exit.inBlock, Exit.then]); (apply Cx.atPost); (focus ((repeat (with_reducible (first | exact (H1).toS | exact At.here | apply At.there | apply CxS.drewN | apply CxS.drew | apply CxS.alloc | apply CxS.set | apply CxS.setRow))))); intro H4)
    go_ret
    refine ⟨?_, ?_⟩
    · simp [Dk.writeE, Dk.has, hh, errW]
    · have h2 : d.write i s = d := by simp [Dk.write, Dk.has, hh]
      rw [h2]
      exact H4.drop (a := .blk w.heap.size (.cells (u8A s) 34 (0, 0))) (by repeat (with_reducible (first | exact At.here | apply At.there))) |>.closeDk d (by repeat (with_reducible (first | exact At.here | apply At.there))) (by repeat (with_reducible (first | exact At.here | apply At.there))) (by repeat (with_reducible (first | exact At.here | apply At.there))) HWF.out

-- AUX DKB
open Go.Shelf
attribute [local go_sem] Oper.semAt_some
section
variable {F : Fence} {n : Nat}
theorem wpListIn_load_mid {P : Program} {ops : Array Oper} {rest : List Oper} {o : Oper} {a : Act} {w : World} {Q : Exit → Act → World → Prop} (hgd : o.guard = none) (ty : TypeId) (x : Operand) (ho : o.op = .load ty x)
    (b i : Nat) (hx : a.eval x = .pointer (some ⟨b, i, none⟩)) (cs : List Value) (d : TypeDesc) (hc : w.rangeAt b i cs)
    (hu : P.underlying ty = some d) (hd : d.isRow = true) (hi : (P.info? ty).map (·.size) = some cs.length)
    (h : wpListIn F n P ops Q rest (a.put o.dst (.agg cs.toArray)) w) : wpListIn F n P ops Q (o :: rest) a w := by
  refine wpListIn_plain hgd fun K hK => ?_
  unfold Oper.wpIn
  refine ⟨by simp [Oper.about, ho], ?_⟩
  rw [Oper.semAt_plain F _ _ (by rw [ho]; intro c hc'; cases hc')]
  unfold execOp
  simp only [ho, hx, Instr.loadAt, Instr.sureAddr, Sem.run_bind, Sem.run_pure, Result.andThen_ok, run_loadVar_mid w b i ty cs d hc hu hd hi]
  exact hK _ _ h
theorem wpListIn_store_row {P : Program} {ops : Array Oper} {rest : List Oper} {o : Oper} {a : Act} {w : World} {Q : Exit → Act → World → Prop} (hgd : o.guard = none) (ty : TypeId) (x y : Operand) (ho : o.op = .store ty x y)
    (g : Nat) (cells : Array Value) (hx : a.eval x = .pointer (some ⟨g, 0, none⟩)) (hy : a.eval y = .agg cells)
    (t : TypeId) (old : Array Value) (hg : w.heap[g]? = some (.cells old t (0, 0))) (hi : (P.info? ty).map (·.size) = some cells.size)
    (hold : old.size = cells.size) (h1 : cells.all (·.oneCell') = true)
    (h : wpListIn F n P ops Q rest (a.put o.dst undef) (w.setRow g cells)) : wpListIn F n P ops Q (o :: rest) a w := by
  refine wpListIn_plain hgd fun K hK => ?_
  unfold Oper.wpIn
  refine ⟨by simp [Oper.about, ho], ?_⟩
  rw [Oper.semAt_plain F _ _ (by rw [ho]; intro c hc'; cases hc')]
  unfold execOp
  simp only [ho, hx, hy, Instr.storeAt, Instr.sureAddr, Sem.run_bind, Sem.run_pure, Result.andThen_ok, run_storeVar_row w g t ty old cells hg hi hold h1]
  exact hK _ _ h
end
theorem blk_own {β : Type} (b t : Nat) (f : β → Array Value) : Own (fun s W => W.heap[b]? = some (.cells (f s) t (0, 0))) := fun s X Y row hs hg hr => by
  refine (hg.block b (blk_size hs) (fun e => ?_)).trans hs
  obtain ⟨o, ho, hc⟩ := hr b e.symm
  rw [hs] at ho
  injection ho with ho
  subst ho
  cases hc
theorem KeepsOthers.setRow_ {W : World} {g t : Nat} {old : Array Value} (hg : W.heap[g]? = some (.cells old t (0, 0))) (cs : Array Value) : KeepsOthers W (W.setRow g cs) :=
  ⟨by simp [World.setRow], fun k o hk ho => by
    by_cases e : k = g
    · subst e
      rw [hg] at hk
      injection hk with hk
      subst hk
      cases ho
    · exact (setRow_other W g k cs e).trans hk⟩
theorem below_setRow {n₀ : Nat} {w W : World} (h : Below n₀ w W) {g : Nat} (hg : n₀ ≤ g) (cs : Array Value) : Below n₀ w (W.setRow g cs) :=
  ⟨h.os, h.tape, h.output, by have := h.size; simpa [World.setRow] using this, fun i hi => (setRow_other W g i cs (by omega)).trans (h.block i hi)⟩
/-- A sector of any bytes at all. -/
def secN (s : List Int) : List Int := if s.length = 128 then s else sz0
theorem secN_len (s : List Int) : (secN s).length = 128 := by
  unfold secN
  split
  · assumption
  · exact sz0_len
theorem secN_eq {s : List Int} (h : s.length = 128) : secN s = s := if_pos h
def wrN (x : Int × List Int) : List Value := wrC (x.1, secN x.2)
theorem wrN_len (x : Int × List Int) : (wrN x).length = 129 := wrC_len _ (secN_len _)
theorem wrN_eq {x : Int × List Int} (h : (wrC x).length = 129) : wrN x = wrC x := by
  have h2 : x.2.length = 128 := by simpa [wrC] using h
  unfold wrN
  rw [secN_eq h2]
/-- What has come when the writes from j on were looked at, the last one first. -/
def came (ws : List (Int × List Int)) (j : Nat) : List (Nat × (Int × List Int)) := ((List.range' j (ws.length - j)).reverse).map fun i => (i, ws.getD i (0, sz0))
theorem came_len (ws : List (Int × List Int)) (j : Nat) : (came ws j).length = ws.length - j := by simp [came]
theorem came_all (ws : List (Int × List Int)) : came ws ws.length = [] := by simp [came]
theorem came_succ (ws : List (Int × List Int)) (j : Nat) (x : Int × List Int) (hx : ws[j]? = some x) : came ws j = came ws (j + 1) ++ [(j, x)] := by
  have hj := (List.getElem?_eq_some_iff.1 hx).1
  unfold came
  rw [show ws.length - j = (ws.length - (j + 1)) + 1 by omega, List.range'_succ, List.reverse_cons, List.map_append]
  simp [List.getD_eq_getElem?_getD, hx]
set_option maxRecDepth 100000 in
set_option maxHeartbeats 4000000 in
/-- slices.Backward's iterator. -/
theorem dk_back1_in (F : Fence) (n : Nat) (h41 : F.fn 41) (hro : F.round = none) (hn : 1 ≤ n) (l Bs n₀ N c : Nat) (A : Option Addr) (ws : List (Int × List Int)) (hN : N = ws.length) (hlim : N < 100000) (J Jx : List (Nat × (Int × List Int)) → World → Prop)
    (hY : ∀ pre x W, J pre W → pre.length < N → YieldAt F (n - 1) Try.prog l #[.int .i64 (x.1 : Int), .agg (wrN x.2).toArray] W fun e W' =>
      (e = .returned (.bool true) ∧ J (pre ++ [x]) W' ∧ Below n₀ W W') ∨ (e = .returned (.bool false) ∧ Jx (pre ++ [x]) W'))
    (W : World) (hBn : Bs < n₀) (hBs : W.cell? ⟨Bs, 0, none⟩ = some (.slice A N c)) (hc : ∀ j x, ws[j]? = some x → ∃ b, A = some ⟨b, 0, none⟩ ∧ b < n₀ ∧ (wrC x).length = 129 ∧ W.rangeAt b (j * 129) (wrC x)) (h0 : J [] W) :
    CallsIn F n Try.prog 41 #[.func (.yield l) #[] #[], .pointer (some ⟨Bs, 0, none⟩)] W fun e W' => (∃ v, e = .returned v) ∧
      ((∃ ys, ys = came ws 0 ∧ J ys W') ∨ (∃ pre, (∃ k, k < N ∧ pre = came ws k) ∧ Jx pre W')) := by
  have hNi : (N : Int) - 1 = IntKind.i64.wrap ((N : Int) - 1) := (IntWalk.i64_in _ (by omega)).symm
  refine callsIn_of_wp Try.func41 rfl h41 ?_ hro
  simp only [Try.ntmps41, List.size_toArray, List.length_cons, List.length_nil, Nat.reduceAdd, Nat.reduceSub, Array.replicate_succ, Array.replicate_zero, List.push_toArray, List.append_toArray, List.nil_append, List.cons_append]
  gi_wp2
  gi_loopw [3] (fun i wr => ∃ j : Nat, j ≤ N ∧ i = .int .i64 ((j : Int) - 1) ∧ J (came ws j) wr ∧ Below n₀ W wr)
    (fun i _ => (intOf i + 1).toNat)
  case atStart => exact ⟨N, Nat.le_refl _, by go_num, by rw [hN, came_all]; exact h0, Below.refl _ _⟩
  case round =>
    obtain ⟨j, hj, rfl, hJs, hnx⟩ := hrel
    have hBr : wr.cell? ⟨Bs, 0, none⟩ = some (.slice A N c) := (hnx.cell (p := ⟨Bs, 0, none⟩) hBn).trans hBs
    clear hBs hNi
    cases j with
    | zero =>
      have e0 : ((0 : Nat) : Int) - 1 = -1 := rfl
      rw [e0]
      gi_wp2
      go_end0
      exact ⟨⟨_, rfl⟩, .inl ⟨_, rfl, hJs⟩⟩
    | succ k =>
      have e0 : ((k + 1 : Nat) : Int) - 1 = (k : Int) := by omega
      rw [e0]
      obtain ⟨x, hx⟩ : ∃ x, ws[k]? = some x := ⟨_, List.getElem?_eq_getElem (by omega)⟩
      obtain ⟨b, rfl, hb, hxl, hr0⟩ := hc k x hx
      have hr : wr.rangeAt b (k * 129) (wrC x) := fun i u hu => (hnx.cell (p := ⟨b, k * 129 + i, none⟩) hb).trans (hr0 i u hu)
      have hcs := came_succ ws k x hx
      obtain ⟨fn, tmps, assign, body, hy, hR⟩ := hY (came ws (k + 1)) (k, x) wr hJs (by rw [came_len]; omega)
      dsimp only at hy
      rw [wrN_eq hxl] at hy
      have hk0 : (0 : Int) ≤ (k : Int) := by omega
      have hk1 : (k : Int) < (N : Int) := by omega
      have HX := Aside0.mk hx
      have HC := Aside0.mk hcs
      have HL := Aside0.mk hxl
      clear hx hcs hc hxl
      gi_wp2_with (refine wpListIn_load_mid rfl 69 (.tmp 15) rfl b (k * 129) rfl (wrC x) _ hr Try.underlying69 rfl (by rw [HL.out]; kernel_rfl) ?_)
      refine hR.mono ?_
      rintro e W3 (⟨rfl, hJ3, hk3⟩ | ⟨rfl, hJx3⟩)
      · gi_wp2
        go_roundw
        case rel => exact ⟨k, by omega, by go_num, by rw [HC.out]; exact hJ3, hnx.trans hk3⟩
        case measure => simp [intOf]
      · gi_wp2
        refine bodyPost_ret (results_none rfl _ _ _) rfl ?_
        exact ⟨⟨_, rfl⟩, .inr ⟨_, ⟨k, by omega, HC.out.symm⟩, hJx3⟩⟩
set_option maxHeartbeats 1000000 in
/-- slices.Backward: the slice is boxed, the function value captures the box. -/
theorem dk_back_in (F : Fence) (n : Nat) (h33 : F.fn 33) (hro : F.round = none) (A : Option Addr) (N c : Nat) (w : World) :
    CallsIn F n Try.prog 33 #[.slice A N c] w fun e w' => e = .returned (.func (.func 41) #[] #[.pointer (some ⟨w.heap.size, 0, none⟩)]) ∧ w' = w.alloc (.cells #[.slice A N c] 65) := by
  refine callsIn_of_wp Try.func33 rfl h33 ?_ hro
  simp only [Try.ntmps33, List.size_toArray, List.length_cons, List.length_nil, Nat.reduceAdd, Nat.reduceSub, Array.replicate_succ, Array.replicate_zero, List.push_toArray, List.append_toArray, List.nil_append, List.cons_append]
  gi_wp2
  go_ret
  exact ⟨rfl, rfl⟩
theorem dk_back_stops (F : Fence) (n : Nat) (h41 : F.fn 41) (hro : F.round = none) (hn : 1 ≤ n) (Bs N c : Nat) (A : Option Addr) (ws : List (Int × List Int)) (hN : N = ws.length) (hlim : N < 100000) (w : World) (hBn : Bs < w.heap.size)
    (hBs : w.cell? ⟨Bs, 0, none⟩ = some (.slice A N c)) (hc : ∀ j x, ws[j]? = some x → ∃ b, A = some ⟨b, 0, none⟩ ∧ b < w.heap.size ∧ (wrC x).length = 129 ∧ w.rangeAt b (j * 129) (wrC x)) :
    SeqStopsK F n Try.prog 41 #[.pointer (some ⟨Bs, 0, none⟩)] (fun x : Nat × (Int × List Int) => #[.int .i64 (x.1 : Int), .agg (wrN x.2).toArray]) (Below w.heap.size) (fun ys => ys = came ws 0) (fun pre => ∃ k, k < N ∧ pre = came ws k) N w := fun l J Jx W hW _ _ hY h0 =>
  (dk_back1_in F n h41 hro hn l Bs w.heap.size N c A ws hN hlim J Jx hY W hBn ((hW.cell (p := ⟨Bs, 0, none⟩) hBn).trans hBs) (fun j x hx => by
    obtain ⟨b, e, hb, hl, hr⟩ := hc j x hx
    exact ⟨b, e, hb, hl, fun i u hu => (hW.cell (p := ⟨b, j * 129 + i, none⟩) hb).trans (hr i u hu)⟩) h0).mono fun e W' h => h

-- AUX DKS
theorem wpStill_load_mid {P : Program} {ops : Array Oper} {w : World} {Q : Act → Prop} {a : Act} {o : Oper} {rest : List Oper} (hw : Region.wanted o (yielded ops a.tmps) = true) (ty : TypeId) (x : Operand) (ho : o.op = .load ty x)
    (g i : Nat) (hx : a.eval x = .pointer (some ⟨g, i, none⟩)) (cs : List Value) (d : TypeDesc) (hc : w.rangeAt g i cs)
    (hu : P.underlying ty = some d) (hd : d.isRow = true) (hi : (P.info? ty).map (·.size) = some cs.length)
    (h : wpStill P ops w Q rest (a.put o.dst (.agg cs.toArray))) : wpStill P ops w Q (o :: rest) a :=
  wpStill_step fun K hK => by
    rw [if_pos hw]
    unfold Oper.still execOp
    simp only [ho, hx, Instr.loadAt, Instr.sureAddr, Sem.run_bind, Sem.run_pure, Result.andThen_ok, run_loadVar_mid w g i ty cs d hc hu hd hi, Oper.stillUpon]
    exact ⟨trivial, hK _ h⟩
theorem exec_mapUpdate {P : Program} {o : Oper} {ρ : Operand → Value} {w w1 : World} (t : TypeId) (m x y : Operand) (ho : o.op = .mapUpdate t m x y) (vm vx vy : Value) (h1 : ρ m = vm) (h2 : ρ x = vx) (h3 : ρ y = vy) (hrun : (Instr.mapUpdate t vm vx vy).run P w = .ok () w1) :
    (execOp ρ o).run P w = .ok .skip w1 := by
  subst h1 h2 h3
  unfold execOp
  simp only [ho, Sem.run_bind, hrun, Result.andThen_ok]
  rfl
theorem wpList_exec_skip {P : Program} {w w1 : World} {ops : Array Oper} {rest : List Oper} {o : Oper} {a : Act} {Q : Exit → Act → World → Prop} (hgd : o.guard = none) (hrun : (execOp a.eval o).run P w = .ok .skip w1)
    (h : wpList P ops Q rest (a.put o.dst undef) w1) : wpList P ops Q (o :: rest) a w := by
  refine wpList_plain hgd fun K hK => ?_
  unfold Oper.wp
  rw [hrun]
  exact hK _ _ h
theorem wpList_exec_value {P : Program} {w w1 : World} {ops : Array Oper} {rest : List Oper} {o : Oper} {a : Act} {v : Value} {Q : Exit → Act → World → Prop} (hgd : o.guard = none) (hrun : (execOp a.eval o).run P w = .ok (.value v) w1)
    (h : wpList P ops Q rest (a.put o.dst v) w1) : wpList P ops Q (o :: rest) a w := by
  refine wpList_plain hgd fun K hK => ?_
  unfold Oper.wp
  rw [hrun]
  exact hK _ _ h
theorem Cx.mapMono {B : Nat} {w0 w : World} {m r : List Asr} {v : Value} {c c' : Nat} {f : Int → List Int} (H : Cx B w0 w m) (k : At m (.own mapR v (c, f)) r) (h : c ≤ c') : Cx B w0 w (.own mapR v (c', f) :: r) := by
  obtain ⟨S, ⟨b, n, D, e, hS, hn, hr⟩, _, _, hcl⟩ := (H.find k).open_
  exact hcl w [.own mapR v (c', f)] (Only.refl _ _) ⟨S, ⟨b, n, D, e, hS, Nat.le_trans hn h, hr⟩, fun _ h => .inl h, trivial⟩
theorem dk_zero2 (W : World) : (zeroValue 69).run Try.prog W = .ok (.agg (wrC (0, sz0)).toArray) W := by
  obtain ⟨it, hi, hz⟩ := Option.map_eq_some_iff.1 dk_info2
  simp only [Prod.mk.injEq] at hz
  simp [zeroValue, typeInfo, hi, hz.1]
theorem dk_isz2 {x : Int × List Int} (h : (wrC x).length = 129) : (Try.prog.info? 69).map (·.size) = some (wrC x).toArray.size := by
  rw [List.size_toArray, h]
  kernel_rfl
theorem wrC_oneA (x : Int × List Int) : (wrC x).toArray.all (·.oneCell') = true := all_oneCell_toArray (wrC_one x)
/-- What the map is when the first k of the writes were looked at. -/
def setF (kp : Nat → Bool) (ws : List (Int × List Int)) (f : Int → List Int) : Nat → (Int → List Int)
  | 0 => f
  | k + 1 => if kp k = true then updF (setF kp ws f k) (ws.getD k (0, sz0)).1 (ws.getD k (0, sz0)).2 else setF kp ws f k
def Dk.settle (kp : Nat → Bool) (d : Dk) : Dk := { d with cnt := d.cnt + d.waiting.length, sure := setF kp d.waiting d.sure d.waiting.length, waiting := [] }
set_option maxRecDepth 100000 in
set_option maxHeartbeats 4000000 in
theorem dk_settle {B : Nat} {w0 w : World} {m r : List Asr} {v : Value} {d : Dk} (kp : Nat → Bool) (gf : Nat) (lb : Array Value) (hl : d.cnt + d.waiting.length < 100000) (H : Cx B w0 w m) (k : At m (.own dkR v d) r)
    (heg : ∀ args w, (callFunc gf args).run Try.prog w = .ok (.enter gf args) w)
    (hcall : ∀ (W : World) (n : Nat), n < d.waiting.length → Cx B w0 W r → Calls Try.prog gf (#[.int .i64 (n : Int)] ++ lb) W fun e W' => e = .returned (.bool (kp n)) ∧ W' = W) :
    Calls Try.prog 30 #[v, .func (.func gf) #[] lb] w fun e w1 => e = .returned (.tuple #[]) ∧ Cx B w0 w1 (.own dkR v (d.settle kp) :: r) := by
  obtain ⟨b, A, W, rfl, HWF, H0⟩ := H.openDk k
  obtain ⟨bm, rfl⟩ := H0.mapped (x := (d.cnt, d.sure)) (by repeat (with_reducible (first | exact At.here | apply At.there)))
  obtain ⟨A2, c2, rfl, hle, hrow, hread⟩ := H0.bigLen (xs := d.waiting) (by repeat (with_reducible (first | exact At.here | apply At.there)))
  clear hread H k
  have HL := Aside0.mk hl
  have HLE := Aside0.mk hle
  have HROW := Aside0.mk hrow
  have HC := Aside0.mk hcall
  clear hle hrow hcall
  obtain ⟨N, hN⟩ : ∃ N, N = d.waiting.length := ⟨_, rfl⟩
  rw [← hN] at H0
  have hNb : N < 100000 := by omega
  have HN := Aside0.mk hN
  clear hN hl
  have F := (H0).facts; simp only [factsOf, Asr.facts, blkFacts, cellsAre, List.toList_toArray, forall_const, Nat.zero_add, Nat.reduceAdd, and_true, true_and] at F
  go_enter Try.func30, Try.ntmps30
  go_wp2
  go_loopw [11] (fun v11 wr => ∃ k : Nat, k ≤ N ∧ v11 = .int .i64 k ∧ Cx B w0 wr (.blk b (.cells #[.int .i64 d.steps, .int .i64 d.left, .bool d.armed, .bool d.gone, .int .i64 d.size, .map (some bm), .slice A2 N c2] 67 (0, 0)) :: .own mapR (.map (some bm)) (d.cnt + k, setF kp d.waiting d.sure k) :: .own waitR (.slice A2 N c2) d.waiting :: r)) (fun v11 _ => N - (intOf v11).toNat)
  case atStart => exact ⟨0, by omega, rfl, H0⟩
  case round =>
    clear H0 F
    obtain ⟨k, hk, rfl, H1⟩ := hrel
    have F := (H1).facts; simp only [factsOf, Asr.facts, blkFacts, cellsAre, List.toList_toArray, forall_const, Nat.zero_add, Nat.reduceAdd, and_true, true_and] at F
    by_cases hlt : k < N
    · obtain ⟨x, hx⟩ : ∃ x, d.waiting[k]? = some x := ⟨_, List.getElem?_eq_getElem (by have := HN.out; omega)⟩
      obtain ⟨g, rfl, hg1, hg2, hxl, hcell⟩ := H1.bigAt (xs := d.waiting) (n := N) (c := c2) (A := A2) (by repeat (with_reducible (first | exact At.here | apply At.there))) k x hx
      have hrange : ∀ o, (wr.alloc o).rangeAt g (k * 129) (wrC x) := fun o => World.rangeAt_alloc (fun j u hu => hcell j u hu) o
      have hrange0 : wr.rangeAt g (k * 129) (wrC x) := fun j u hu => hcell j u hu
      have hxl2 : x.2.length = 128 := by simpa [wrC] using hxl
      have HX := Aside0.mk hx
      have HXL := Aside0.mk hxl
      have HXL2 := Aside0.mk hxl2
      have HI : Aside0 ((Lit.int .i64 x.1).wf = true) := ⟨HWF.out x (List.mem_of_getElem? hx)⟩
      clear hx hxl hcell hxl2
      have hz2 := dk_zero2
      go_wp2_with (first | ((with_reducible refine gate_load (t := 69) (x := .tmp 14) rfl ?_); refine wpList_load_mid rfl 69 (.tmp 14) rfl (g) (k * 129) rfl (wrC x) _ (hrange0) Try.underlying69 rfl (by rw [HXL.out]; kernel_rfl) ?_) | ((with_reducible refine gate_store (t := 69) (x := .tmp 5) (y := .tmp 15) rfl ?_); (apply Cx.atList); (focus ((repeat (with_reducible (first | exact (H1).toS | exact At.here | apply At.there | apply CxS.drewN | apply CxS.drew | apply CxS.alloc | apply CxS.set | apply CxS.setRow))))); intro HT_; refine wpList_store_row rfl 69 (.tmp 5) (.tmp 15) rfl (wr.heap.size) ((wrC x).toArray) rfl rfl _ _ (HT_.blk (by repeat (with_reducible (first | exact At.here | apply At.there)))) (dk_isz2 HXL.out) (by rw [List.size_toArray, List.size_toArray, HXL.out, wrC_len _ sz0_len]) (wrC_oneA x) ?_; clear HT_))
      ((first | apply Cx.genCall | apply Cx.genCode | apply Cx.genList); (focus ((repeat (with_reducible (first | exact (H1).toS | exact At.here | apply At.there | apply CxS.drewN | apply CxS.drew | apply CxS.alloc | apply CxS.set | apply CxS.setRow))))); clear H1; intro w2 H2)
      have hb5 := H2.blk (b := wr.heap.size) (o := .cells (wrC x).toArray 69 (0, 0)) (by repeat (with_reducible (first | exact At.here | apply At.there)))
      have c50 : w2.cell? ⟨wr.heap.size, 0, none⟩ = some (.int .i64 x.1) := (cell_of hb5 0).trans rfl
      have hr5 : w2.drew.rangeAt wr.heap.size 1 (x.2.map (Value.int .u8)) := fun j u hu => by
        rw [World.cell?_drew, cell_of hb5, Nat.add_comm]
        simpa [wrC] using hu
      have hD := (H2.toS.drew).cx
      obtain ⟨w3, hrun, H3⟩ := hD.putMap (b := bm) (x := (d.cnt + k, setF kp d.waiting d.sure k)) (by repeat (with_reducible (first | exact At.here | apply At.there))) x.1 HI.out x.2 HXL2.out (by have := HL.out; have := HN.out; simp only; omega)
      clear hb5 hD F hrange hrange0 hg1 hg2
      have F := (H2).facts; simp only [factsOf, Asr.facts, blkFacts, cellsAre, List.toList_toArray, forall_const, Nat.zero_add, Nat.reduceAdd, and_true, true_and] at F
      have hcl := HC.out w2 k (by have := HN.out; omega) H2.tail.tail.tail.tail
      cases hkp : kp k
      · rw [hkp] at hcl
        refine hcl.mono ?_
        rintro e w' ⟨rfl, rfl⟩
        clear hcl hrun H3 hr5 c50 w3
        go_wp2
        refine ⟨⟨k + 1, by omega, by go_num, ?_⟩, by simp [intOf]; omega⟩
        rw [show setF kp d.waiting d.sure (k + 1) = setF kp d.waiting d.sure k by simp [setF, hkp]]
        have H4 := H2.tail.mapMono (c' := d.cnt + (k + 1)) (by repeat (with_reducible (first | exact At.here | apply At.there))) (by omega)
        exact H4.find (by repeat (with_reducible (first | exact At.here | apply At.there)))
      · rw [hkp] at hcl
        refine hcl.mono ?_
        rintro e w' ⟨rfl, rfl⟩
        clear hcl
        go_wp2
        refine wp_region_still_tail 8 (by kernel_rfl) (by kernel_rfl) ?_; simp only [List.take_succ_cons, List.take_zero, List.drop_succ_cons, List.drop_zero]; (repeat (first | ((with_reducible refine gate_still_load (t := 34) (x := .tmp 25) rfl ?_); refine wpStill_load_mid rfl 34 (.tmp 25) rfl wr.heap.size 1 rfl (x.2.map (Value.int .u8)) _ hr5 Try.underlying34 rfl (by rw [List.length_map, HXL2.out]; exact dk_info) ?_) | still_step)); try refine wpStill_nil ?_
        refine wpList_exec_skip rfl (exec_mapUpdate 62 (.tmp 22) (.tmp 24) (.tmp 26) rfl (.map (some bm)) (.int .i64 x.1) (.agg (u8A x.2)) rfl rfl rfl hrun) ?_
        clear hrun hr5 c50 F H2
        go_wp2
        refine ⟨⟨k + 1, by omega, by go_num, ?_⟩, by simp [intOf]; omega⟩
        rw [show setF kp d.waiting d.sure (k + 1) = updF (setF kp d.waiting d.sure k) x.1 x.2 by simp [setF, hkp, List.getD_eq_getElem?_getD, HX.out]]
        have H4 := H3.drop (a := .blk wr.heap.size (.cells (wrC x).toArray 69 (0, 0))) (by repeat (with_reducible (first | exact At.here | apply At.there)))
        rw [Nat.add_assoc] at H4
        exact H4.find (by repeat (with_reducible (first | exact At.here | apply At.there)))
    · obtain rfl : k = N := by omega
      go_wp2
      ((try simp only [Exit.inBlock, Exit.then]); (apply Cx.atPost); (focus ((repeat (with_reducible (first | exact (H1).toS | exact At.here | apply At.there | apply CxS.drewN | apply CxS.drew | apply CxS.alloc | apply CxS.set | apply CxS.setRow))))); intro H2)
      try simp only [List.setIfInBounds_toArray, List.set_cons_zero, List.set_cons_succ] at H2
      go_end0
      have hst : d.settle kp = ⟨d.steps, d.left, d.armed, d.gone, d.size, d.cnt + k, setF kp d.waiting d.sure k, []⟩ := by unfold Dk.settle; rw [← HN.out]
      rw [hst]
      exact ⟨by first | rfl | trivial, ((H2.drop (a := .own waitR (.slice A2 k c2) d.waiting) (by repeat (with_reducible (first | exact At.here | apply At.there)))).bigNil 69 129 wrC).closeDk ⟨d.steps, d.left, d.armed, d.gone, d.size, d.cnt + k, setF kp d.waiting d.sure k, []⟩ (by repeat (with_reducible (first | exact At.here | apply At.there))) (by repeat (with_reducible (first | exact At.here | apply At.there))) (by repeat (with_reducible (first | exact At.here | apply At.there))) (fun _ h => by cases h)⟩

-- AUX DKF
def Dk.offE (d : Dk) : Option Int := if d.off = true then some 3 else none
def Dk.flush (d : Dk) : Dk := if d.off = true then d.step else d.step.settle (fun _ => true)
theorem dk_all (W : World) (n : Int) : Calls Try.prog 31 #[.int .i64 n] W fun e W' => e = .returned (.bool true) ∧ W' = W := by
  go_enter Try.func31, Try.ntmps31
  go_wp2
  go_ret
  exact ⟨rfl, rfl⟩
set_option maxRecDepth 100000 in
set_option maxHeartbeats 2000000 in
theorem dk_flush {B : Nat} {w0 w : World} {m r : List Asr} {v : Value} {d : Dk} (hl : d.cnt + d.waiting.length < 100000) (H : Cx B w0 w m) (k : At m (.own dkR v d) r) :
    Calls Try.prog 14 #[v] w fun e w1 => e = .returned (errW d.offE) ∧ Cx B w0 w1 (.own dkR v d.flush :: r) := by
  obtain ⟨b, A, W, rfl, HWF, H0⟩ := H.openDk k
  clear H k
  have h56 := Try.underlying56
  have h26 := Try.underlying26
  have HL := Aside0.mk hl
  clear hl
  have HOFF : Aside0 (d.off = (d.gone || (d.armed && decide (d.left = 0)))) := ⟨rfl⟩
  go_enter Try.func14, Try.ntmps14
  go_wp2_with fail
  refine (dk_step H0 (by repeat (with_reducible (first | exact At.here | apply At.there)))).mono ?_
  rintro e w1 (⟨hq, rfl, H3⟩ | ⟨hq, rfl, H3⟩)
  · go_wp2
    ((try simp only [Exit.inBlock, Exit.then]); (apply Cx.atPost); (focus ((repeat (with_reducible (first | exact (H3).toS | exact At.here | apply At.there | apply CxS.drewN | apply CxS.drew | apply CxS.alloc | apply CxS.set | apply CxS.setRow))))); intro H4)
    go_ret
    have hof : d.off = true := by rw [HOFF.out]; simpa using hq
    have hfl : d.flush = { d with gone := true } := by simp [Dk.flush, Dk.step, hof]
    rw [hfl, show d.offE = some 3 from if_pos hof]
    exact ⟨by first | rfl | trivial, H4.closeDk { d with gone := true } (by repeat (with_reducible (first | exact At.here | apply At.there))) (by repeat (with_reducible (first | exact At.here | apply At.there))) (by repeat (with_reducible (first | exact At.here | apply At.there))) HWF.out⟩
  · have hof : d.off = false := by
      rw [HOFF.out]
      obtain ⟨h1, h2⟩ := hq
      simp only [h1, Bool.false_or, Bool.and_eq_false_iff, decide_eq_false_iff_not]
      by_cases ha : d.armed = true
      · exact .inr fun h => h2 ⟨ha, h⟩
      · exact .inl (by simpa using ha)
    have hst : d.step = { d with left := wrap64 (d.left - 1), steps := wrap64 (d.steps + 1), gone := false } := by simp [Dk.step, hof, hq.1]
    have HFL : Aside0 (d.flush = d.step.settle (fun _ => true) ∧ d.offE = none) := ⟨by simp [Dk.flush, hof], by simp [Dk.offE, hof]⟩
    have H4 := H3.closeDk { d with left := wrap64 (d.left - 1), steps := wrap64 (d.steps + 1), gone := false } (by repeat (with_reducible (first | exact At.here | apply At.there))) (by repeat (with_reducible (first | exact At.here | apply At.there))) (by repeat (with_reducible (first | exact At.here | apply At.there))) HWF.out
    rw [← hst] at H4
    clear hof hst HOFF hq
    have hl2 : d.step.cnt + d.step.waiting.length < 100000 := by rw [d.step_rest.2.1, d.step_rest.2.2.2.1]; exact HL.out
    have HL2 := Aside0.mk hl2
    clear hl2
    go_wp2_with fail
    refine (dk_settle (fun _ => true) 31 #[] HL2.out H4 (by repeat (with_reducible (first | exact At.here | apply At.there))) (Go.Proofs.enters_of Try.func31 (by kernel_rfl) rfl) (fun W n _ _ => by simpa using dk_all W n)).mono ?_
    rintro e w2 ⟨rfl, H5⟩
    go_wp2
    ((try simp only [Exit.inBlock, Exit.then]); (apply Cx.atPost); (focus ((repeat (with_reducible (first | exact (H5).toS | exact At.here | apply At.there | apply CxS.drewN | apply CxS.drew | apply CxS.alloc | apply CxS.set | apply CxS.setRow))))); intro H6)
    go_ret
    rw [HFL.out.1, HFL.out.2]
    exact ⟨by first | rfl | trivial, H6⟩
def keepB (l : List Bool) (n : Nat) : Bool := l.getD n false
set_option maxRecDepth 100000 in
theorem dk_kept (W : World) (g : Nat) (A : Option Addr) (N c : Nat) (l : List Bool) (n : Nat) (hc : W.cell? ⟨g, 0, none⟩ = some (.slice A N c)) (hr : Kd.C Kd.bool W A N l) :
    Calls Try.prog 32 #[.int .i64 (n : Int), .pointer (some ⟨g, 0, none⟩)] W fun e W' => e = .returned (.bool (keepB l n)) ∧ W' = W := by
  have hN := hr.1
  by_cases h : n < N
  · obtain ⟨ad, e, hb⟩ := Kd.at_bool hr (n : Int) (by omega) (by omega)
    subst e
    rw [Int.toNat_natCast] at hb
    have hv : rdOf false l (n : Int) = keepB l n := by simp [rdOf, keepB]
    rw [hv] at hb
    have h0 : (0 : Int) ≤ (n : Int) := by omega
    have h1 : ((n : Int)) < (N : Int) := by omega
    go_enter Try.func32, Try.ntmps32
    go_wp2
    go_ret
    exact ⟨rfl, rfl⟩
  · have hv : keepB l n = false := by simp [keepB, List.getElem?_eq_none (show l.length ≤ n by omega)]
    rw [hv]
    have h1 : ¬ ((n : Int)) < (N : Int) := by omega
    go_enter Try.func32, Try.ntmps32
    go_wp2
    go_ret
    exact ⟨rfl, rfl⟩
def Dk.crash (d : Dk) (l : List Bool) : Dk := { d.settle (keepB l) with armed := false, gone := false }
set_option maxRecDepth 100000 in
set_option maxHeartbeats 2000000 in
theorem dk_crash {B : Nat} {w0 w : World} {m r : List Asr} {v : Value} {d : Dk} (A0 : Option Addr) (N c : Nat) (l : List Bool) (hl : d.cnt + d.waiting.length < 100000) (H : Cx B w0 w m) (k : At m (.own dkR v d) r)
    (hkeep : ∀ W, Cx B w0 W r → Kd.C Kd.bool W A0 N l) :
    Calls Try.prog 15 #[v, .slice A0 N c] w fun e w1 => e = .returned (.tuple #[]) ∧ Cx B w0 w1 (.own dkR v (d.crash l) :: r) := by
  have h26 := Try.underlying26
  have HK := Aside0.mk hkeep
  have HL := Aside0.mk hl
  have H0 := H.find k
  obtain ⟨b, A, W, rfl, HWF, _⟩ := H.openDk k
  clear hkeep hl H k
  go_enter Try.func15, Try.ntmps15
  go_wp2_with fail
  ((first | apply Cx.genCall | apply Cx.genCode | apply Cx.genList); (focus ((repeat (with_reducible (first | exact (H0).toS | exact At.here | apply At.there | apply CxS.drewN | apply CxS.drew | apply CxS.alloc | apply CxS.set | apply CxS.setRow))))); clear H0; intro w1 H1)
  have H1 := H1.find (a := .own dkR (.pointer (some ⟨b, 0, none⟩)) d) (by repeat (with_reducible (first | exact At.here | apply At.there)))
  refine (dk_settle (keepB l) 32 #[.pointer (some ⟨w.heap.size, 0, none⟩)] HL.out H1 (by repeat (with_reducible (first | exact At.here | apply At.there))) (Go.Proofs.enters_of Try.func32 (by kernel_rfl) rfl) (fun W n _ HW => by simpa using dk_kept W w.heap.size A0 N c l n ((cell_of (HW.blk (b := w.heap.size) (o := .cells #[.slice A0 N c] 23 (0, 0)) (by repeat (with_reducible (first | exact At.here | apply At.there)))) 0).trans rfl) (HK.out W HW.tail))).mono ?_
  rintro e w2 ⟨rfl, H2⟩
  clear H1
  obtain ⟨b', A', W', e, HWF', H3⟩ := H2.openDk (by repeat (with_reducible (first | exact At.here | apply At.there)))
  simp only [Value.pointer.injEq, Option.some.injEq, Addr.mk.injEq, and_true] at e
  subst e
  clear H2
  have F := (H3).facts; simp only [factsOf, Asr.facts, blkFacts, cellsAre, List.toList_toArray, forall_const, Nat.zero_add, Nat.reduceAdd, and_true, true_and] at F
  go_wp2
  ((try simp only [Exit.inBlock, Exit.then]); (apply Cx.atPost); (focus ((repeat (with_reducible (first | exact (H3).toS | exact At.here | apply At.there | apply CxS.drewN | apply CxS.drew | apply CxS.alloc | apply CxS.set | apply CxS.setRow))))); intro H4)
  try simp only [List.setIfInBounds_toArray, List.set_cons_zero, List.set_cons_succ] at H4
  go_end0
  exact ⟨by first | rfl | trivial, (H4.drop (a := .blk w.heap.size (.cells #[.slice A0 N c] 23 (0, 0))) (by repeat (with_reducible (first | exact At.here | apply At.there)))).closeDk { d.settle (keepB l) with armed := false, gone := false } (by repeat (with_reducible (first | exact At.here | apply At.there))) (by repeat (with_reducible (first | exact At.here | apply At.there))) (by repeat (with_reducible (first | exact At.here | apply At.there))) HWF'.out⟩

end Go.Proofs.Ytjoledofiindcaa.Hp
