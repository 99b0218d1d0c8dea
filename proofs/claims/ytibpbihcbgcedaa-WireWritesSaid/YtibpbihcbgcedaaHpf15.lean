/- Contracts of functions of the given program, and what they lean on: written by this session's own program hprint.py, which lays hand texts into the kit's printer. -/
import Derived.Test.YtibpbihcbgcedaaHp0
import Derived.Test.YtibpbihcbgcedaaHpaM
import Derived.Test.YtibpbihcbgcedaaHpf35
namespace Go.Proofs.Ytibpbihcbgcedaa.Hp
open Go.RowKit Go.Proofs.YtibpbihcbgcedaaW.PrintWords Go.Proofs.YtibpbihcbgcedaaW.PrintLast Go.Proofs.YtibpbihcbgcedaaW.PrintMore
attribute [local go_sem] max2_int min2_int max_two min_two max_three min_three max_four min_four   -- for this text's walks alone
set_option linter.unusedVariables false
set_option linter.unusedSimpArgs false

/-! ### wire_Writer_Out: function 15 -/
theorem wire_Writer_Out.calls (S : Nat → Prop) (z : Bool) (h : Value) (l : List Int) (w : World) (hw : Wr w S z h l) (hl : l.length < 140737488355328) :
    Calls Try.prog 15 #[h] w fun e w' => ∃ v, e = .returned v ∧ Kd.R (Kd.int .u8) 5 w' w.heap.size (fun _ => True) v l ∧ Below w.heap.size w w' := by
  rcases hw with ⟨rfl, rfl, rfl⟩ | ⟨rfl, p, v, rfl, hp, hb, hR⟩
  · go_enter Try.func15, Try.ntmps15
    go_wp2
    go_ret
    exact ⟨_, rfl, Kd.R_nil _ _ _ _ _, Below.refl _ _⟩
  · have hcell : w.cell? ⟨p, 0, none⟩ = some v := by rw [cell_of hb]; rfl
    obtain ⟨A, c, rfl, -⟩ := Kd.R_reads hR
    have HC := Aside0.mk (Kd.R_reads' hR).2.2
    clear hb hR
    go_enter Try.func15, Try.ntmps15
    go_wp2_with fail
    refine (slices_Clone_byte_byte.own A c l _ HC.out hl).mono ?_
    rintro e w1 ⟨v, rfl, hv, hbl⟩
    obtain ⟨A1, c1, rfl, -⟩ := Kd.R_reads hv
    have HV := Aside0.mk hv
    have HB := Aside0.mk hbl
    clear hv hbl
    go_wp2
    go_ret
    exact ⟨_, rfl, HV.out, HB.out⟩

-- AUX rdr
/-- A struct that reads (type t, at p): what it has left. -/
structure Cur (t : Nat) (w : World) (S : Nat → Prop) (p : Nat) (A : Option Addr) (c : Nat) (l : List Int) (bad : Bool) : Prop where
  str : w.heap[p]? = some (.cells #[.slice A l.length c, .bool bad] t (0, 0))
  len : l.length ≤ c
  row : Rb w S A l
  ne : ¬ S p
  z : bad = true → l = []
  byt : ∀ x ∈ l, 0 ≤ x ∧ x < 256
/-- The row may be written. -/
def Nf (w : World) (A : Option Addr) (l : List Int) : Prop := 0 < l.length → ∀ a, A = some a → a.spot = none ∧ ∃ cs, w.heap[a.block]? = some (.cells cs 5 (0, 0))
theorem Nf.only {w w' : World} {S T : Nat → Prop} {A : Option Addr} {l : List Int} (h : Nf w A l) (r : Rb w S A l) (o : Only w w' T) (hd : ∀ i, S i → ¬ T i) : Nf w' A l := fun hp a ha => by
  obtain ⟨hs, cs, hc⟩ := h hp a ha
  exact ⟨hs, cs, o.same_block hc (hd _ (r.blk hp a ha))⟩
theorem Cur.only {t : Nat} {w w' : World} {S T : Nat → Prop} {p : Nat} {A : Option Addr} {c : Nat} {l : List Int} {bad : Bool} (x : Cur t w S p A c l bad) (o : Only w w' T) (hd : ∀ i, S i → ¬ T i) (hp : ¬ T p) : Cur t w' S p A c l bad :=
  ⟨o.same_block x.str hp, x.len, x.row.only o hd, x.ne, x.z, x.byt⟩
/-- A pointer's block. -/
def Pt (h : Value) : Nat → Prop := fun i => h = .pointer (some ⟨i, 0, none⟩)
/-- What a reader (h; nil: a bad one) has left, in blocks of S. -/
def Rd (w : World) (S : Nat → Prop) (h : Value) (l : List Int) (bad : Bool) : Prop :=
  (h = .pointer none ∧ l = [] ∧ bad = true) ∨ ∃ p A c, h = .pointer (some ⟨p, 0, none⟩) ∧ Cur 63 w S p A c l bad ∧ Nf w A l
theorem Rd.only {w w' : World} {S T : Nat → Prop} {h : Value} {l : List Int} {bad : Bool} (x : Rd w S h l bad) (o : Only w w' T) (hd : ∀ i, S i → ¬ T i) (hp : ∀ i, Pt h i → ¬ T i) : Rd w' S h l bad := by
  rcases x with x | ⟨p, A, c, rfl, x, y⟩
  · exact .inl x
  · exact .inr ⟨p, A, c, rfl, x.only o hd (hp p rfl), y.only x.row o hd⟩
theorem Rd.below {w w' : World} {S : Nat → Prop} {h : Value} {l : List Int} {bad : Bool} (x : Rd w S h l bad) (k : Below w.heap.size w w') : Rd w' S h l bad := x.only (Only.of_below k (fun _ => False)) (fun _ _ h => h) (fun _ _ h => h)
theorem Rd.byt {w : World} {S : Nat → Prop} {h : Value} {l : List Int} {bad : Bool} (x : Rd w S h l bad) : ∀ x ∈ l, 0 ≤ x ∧ x < 256 := by
  rcases x with ⟨_, rfl, _⟩ | ⟨p, A, c, rfl, x, y⟩
  · simp
  · exact x.byt
theorem Rd.z {w : World} {S : Nat → Prop} {h : Value} {l : List Int} {bad : Bool} (x : Rd w S h l bad) : bad = true → l = [] := by
  rcases x with ⟨_, rfl, _⟩ | ⟨p, A, c, rfl, x, y⟩
  · simp
  · exact x.z
theorem Rd.max {w : World} {S : Nat → Prop} {h : Value} {l : List Int} {bad : Bool} (x : Rd w S h l bad) : l.length ≤ 9223372036854775807 := by
  rcases x with ⟨_, rfl, _⟩ | ⟨p, A, c, rfl, x, y⟩
  · simp
  · exact x.row.row.2.1
/-- What a reading call leaves. -/
structure RdTo (w w' : World) (S : Nat → Prop) (h : Value) (l : List Int) (bad : Bool) : Prop where
  rd : Rd w' S h l bad
  only : Only w w' (Pt h)
theorem RdTo.then_ {w w1 w2 : World} {S : Nat → Prop} {h : Value} {l l2 : List Int} {bad bad2 : Bool} (x : RdTo w w1 S h l bad) (y : RdTo w1 w2 S h l2 bad2) : RdTo w w2 S h l2 bad2 := ⟨y.rd, x.only.same y.only⟩
theorem RdTo.refl {w : World} {S : Nat → Prop} {h : Value} {l : List Int} {bad : Bool} (x : Rd w S h l bad) : RdTo w w S h l bad := ⟨x, Only.refl _ _⟩
/-- The cells of a row may have changed, nothing else. -/
structure Seg (w w' : World) (A : Option Addr) (n : Nat) : Prop where
  os : w'.os = w.os
  tape : w'.tape = w.tape
  output : w'.output = w.output
  size : w'.heap.size = w.heap.size
  block : ∀ i, (0 < n → ∀ a, A = some a → i ≠ a.block) → w'.heap[i]? = w.heap[i]?
  cell : ∀ a, A = some a → ∀ p : Addr, p.block = a.block → (∀ j, j < n → p ≠ a.add j) → w'.cell? p = w.cell? p
  kind : ∀ a, A = some a → ∀ cs t, w.heap[a.block]? = some (.cells cs t (0, 0)) → ∃ cs', w'.heap[a.block]? = some (.cells cs' t (0, 0))
theorem Seg.refl (w : World) (A : Option Addr) (n : Nat) : Seg w w A n := ⟨rfl, rfl, rfl, rfl, fun _ _ => rfl, fun _ _ _ _ _ => rfl, fun _ _ cs t h => ⟨cs, h⟩⟩
theorem Seg.only {w w' : World} {S : Nat → Prop} {A : Option Addr} {l : List Int} (x : Seg w w' A l.length) (r : Rb w S A l) : Only w w' S :=
  ⟨x.os, x.tape, x.output, by rw [x.size]; exact Nat.le_refl _, fun i _ hn => x.block i (fun hp a ha e => by subst e; exact hn (r.blk hp a ha))⟩
/-- The parts of a row: what is taken, and what is left. -/
def tkS (n : Int) (l : List Int) (bad : Bool) : Option (List Int × List Int) := if bad = false ∧ 0 ≤ n ∧ n ≤ l.length then some (l.take n.toNat, l.drop n.toNat) else none
theorem tkS_some {n : Int} {l b r : List Int} {bad : Bool} (h : tkS n l bad = some (b, r)) : bad = false ∧ 0 ≤ n ∧ n ≤ l.length ∧ b = l.take n.toNat ∧ r = l.drop n.toNat := by
  unfold tkS at h
  split at h
  · rename_i hc
    simp only [Option.some.injEq, Prod.mk.injEq] at h
    exact ⟨hc.1, hc.2.1, hc.2.2, h.1.symm, h.2.symm⟩
  · cases h
theorem tkS_none {n : Int} {l : List Int} {bad : Bool} (h : tkS n l bad = none) : bad = true ∨ n < 0 ∨ n > l.length := by
  unfold tkS at h
  split at h
  · cases h
  · rename_i hc
    cases bad
    · simp only [true_and] at hc
      omega
    · exact .inl rfl
def byteS (l : List Int) (bad : Bool) : Int × List Int × Bool := match tkS 1 l bad with
  | some (b, r) => (rd b 0, r, false)
  | none => (0, [], true)
def sumN (b : List Int) : Nat → Int
  | 0 => 0
  | k + 1 => sumN b k + rd b k * 2 ^ (8 * k)
def unL (b : List Int) : Int := wrap64 (sumN b 8)
def numS (l : List Int) (bad : Bool) : Int × List Int × Bool := match tkS 8 l bad with
  | some (b, r) => (unL b, r, false)
  | none => (0, [], true)
def flagS (l : List Int) (bad : Bool) : Bool × List Int × Bool := if (byteS l bad).1 > 1 then (false, [], true) else (decide ((byteS l bad).1 = 1), (byteS l bad).2.1, (byteS l bad).2.2)
def bytesS (l : List Int) (bad : Bool) : List Int × List Int × Bool := match tkS (numS l bad).1 (numS l bad).2.1 (numS l bad).2.2 with
  | some (b, r) => (b, r, false)
  | none => ([], [], true)
def numsR : Nat → List Int → Bool → List Int × List Int × Bool
  | 0, l, bad => ([], l, bad)
  | k + 1, l, bad => ((numsR k l bad).1 ++ [(numS (numsR k l bad).2.1 (numsR k l bad).2.2).1], (numS (numsR k l bad).2.1 (numsR k l bad).2.2).2)
def numsS (l : List Int) (bad : Bool) : List Int × List Int × Bool :=
  if (numS l bad).1 < 0 ∨ (numS l bad).1 > (numS l bad).2.1.length / 8 then ([], [], true) else numsR (numS l bad).1.toNat (numS l bad).2.1 (numS l bad).2.2

end Go.Proofs.Ytibpbihcbgcedaa.Hp
