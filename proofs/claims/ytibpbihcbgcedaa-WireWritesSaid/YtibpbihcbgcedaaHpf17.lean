/- Contracts of functions of the given program, and what they lean on: written by this session's own program hprint.py, which lays hand texts into the kit's printer. -/
import Derived.Test.YtibpbihcbgcedaaHp0
import Derived.Test.YtibpbihcbgcedaaHpaM
import Derived.Test.YtibpbihcbgcedaaHpf35
import Derived.Test.YtibpbihcbgcedaaHpf15
namespace Go.Proofs.Ytibpbihcbgcedaa.Hp
open Go.RowKit Go.Proofs.YtibpbihcbgcedaaW.PrintWords Go.Proofs.YtibpbihcbgcedaaW.PrintLast Go.Proofs.YtibpbihcbgcedaaW.PrintMore
attribute [local go_sem] max2_int min2_int max_two min_two max_three min_three max_four min_four   -- for this text's walks alone
set_option linter.unusedVariables false
set_option linter.unusedSimpArgs false

/-! ### wire_NewReader: function 17 -/
/-- A reader that was made. -/
structure RdNew (w w' : World) (h : Value) (l : List Int) : Prop where
  rd : Rd w' (fun i => w.heap.size ≤ i ∧ i < w'.heap.size ∧ ¬ Pt h i) h l false
  pt : ∀ i, Pt h i → w.heap.size ≤ i ∧ i < w'.heap.size
  below : Below w.heap.size w w'
theorem wire_NewReader.calls (A : Option Addr) (c : Nat) (l : List Int) (w : World) (hr : Kd.C (Kd.int .u8) w A l.length l) (hb : ∀ x ∈ l, 0 ≤ x ∧ x < 256) (hl : l.length < 140737488355328) :
    Calls Try.prog 17 #[.slice A l.length c] w fun e w' => ∃ p, e = .returned (.pointer (some ⟨p, 0, none⟩)) ∧ RdNew w w' (.pointer (some ⟨p, 0, none⟩)) l := by
  have HR := Aside0.mk hr
  have HBY := Aside0.mk hb
  clear hr hb
  go_enter Try.func17, Try.ntmps17
  go_wp2_with fail
  refine (slices_Clone_byte_byte.own A c l _ HR.out hl).mono ?_
  rintro e w1 ⟨v, rfl, hv, hbl⟩
  obtain ⟨A1, c1, rfl, -⟩ := Kd.R_reads hv
  have HV := Aside0.mk hv
  have HB := Aside0.mk hbl
  clear hv hbl
  go_wp2
  go_ret
  have hv := HV.out
  have hsz := HB.out.size
  obtain ⟨-, hlc, hC⟩ := Kd.R_reads' hv
  have hpt : ∀ i, Pt (.pointer (some ⟨w1.heap.size, 0, none⟩)) i → i = w1.heap.size := fun i hi => by
    have : w1.heap.size = i := by simpa [Pt] using hi
    exact this.symm
  refine ⟨w1.heap.size, rfl, .inr ⟨w1.heap.size, A1, c1, rfl, ⟨heap_alloc_new w1 _, hlc, ⟨Kd.C_alloc hC _, fun hp a ha => ?_⟩, fun hn => hn.2.2 rfl, (fun h => by cases h), HBY.out⟩, fun hp a ha => ?_⟩, fun i hi => ?_, below_alloc HB.out _⟩
  · have h1 := Kd.R_base hv a.block (by subst ha; rfl)
    have h2 := Kd.R_lt hv a.block (by subst ha; rfl)
    refine ⟨h1, by simp; omega, fun hq => ?_⟩
    have := hpt _ hq
    omega
  · obtain ⟨g, cap, e, _, hgl, cells, hg⟩ := Kd.R_form hv hp
    injection e with e1 _ _
    rw [e1] at ha
    cases ha
    exact ⟨rfl, cells, by simpa using (Below.heap_alloc w1 _ g hgl).trans hg⟩
  · have := hpt i hi
    subst this
    exact ⟨hsz, by simp⟩

-- AUX rm
/-- The document's reader at q: what it has left. -/
def Rm (w : World) (S : Nat → Prop) (q : Nat) (l : List Int) (bad : Bool) : Prop := ∃ A c, Cur 42 w S q A c l bad
theorem Rm.only {w w' : World} {S T : Nat → Prop} {q : Nat} {l : List Int} {bad : Bool} (x : Rm w S q l bad) (o : Only w w' T) (hd : ∀ i, S i → ¬ T i) (hp : ¬ T q) : Rm w' S q l bad := by
  obtain ⟨A, c, x⟩ := x
  exact ⟨A, c, x.only o hd hp⟩
theorem Rm.below {w w' : World} {S : Nat → Prop} {q : Nat} {l : List Int} {bad : Bool} (x : Rm w S q l bad) (k : Below w.heap.size w w') : Rm w' S q l bad := x.only (Only.of_below k (fun _ => False)) (fun _ _ h => h) (fun h => h)
theorem Rm.byt {w : World} {S : Nat → Prop} {q : Nat} {l : List Int} {bad : Bool} (x : Rm w S q l bad) : ∀ x ∈ l, 0 ≤ x ∧ x < 256 := by
  obtain ⟨A, c, x⟩ := x
  exact x.byt
theorem Rm.lt {w : World} {S : Nat → Prop} {q : Nat} {l : List Int} {bad : Bool} (x : Rm w S q l bad) : q < w.heap.size := by
  obtain ⟨A, c, x⟩ := x
  exact blk_size x.str
structure RmTo (w w' : World) (S : Nat → Prop) (q : Nat) (l : List Int) (bad : Bool) : Prop where
  rm : Rm w' S q l bad
  only : Only w w' (fun i => i = q)
theorem RmTo.then_ {w w1 w2 : World} {S : Nat → Prop} {q : Nat} {l l2 : List Int} {bad bad2 : Bool} (x : RmTo w w1 S q l bad) (y : RmTo w1 w2 S q l2 bad2) : RmTo w w2 S q l2 bad2 := ⟨y.rm, x.only.same y.only⟩
theorem RmTo.refl {w : World} {S : Nat → Prop} {q : Nat} {l : List Int} {bad : Bool} (x : Rm w S q l bad) : RmTo w w S q l bad := ⟨x, Only.refl _ _⟩
/-- The row goes on by m bytes. -/
theorem rm_cut {w w1 : World} {S : Nat → Prop} {q : Nat} {A : Option Addr} {c m : Nat} {l : List Int} {bad : Bool} (x : Cur 42 w S q A c l bad) (hm : m ≤ l.length) {A2 : Option Addr} (hA2 : A2 = if c = m then A else A.map (·.add m)) (k : Below w.heap.size w w1) :
    RmTo w (w1.setCell ⟨q, 0, none⟩ (.slice A2 (l.length - m) (c - m))) S q (l.drop m) bad := by
  have x1 := x.only (Only.of_below k (fun _ => False)) (fun _ _ h => h) (fun h => h)
  have o : Only w (w1.setCell ⟨q, 0, none⟩ (.slice A2 (l.length - m) (c - m))) (fun i => i = q) := (Only.of_below k (fun i => i = q)).setCell (p := ⟨q, 0, none⟩) (.inl rfl) _
  have o1 : Only w1 (w1.setCell ⟨q, 0, none⟩ (.slice A2 (l.length - m) (c - m))) (fun i => i = q) := (Only.refl w1 (fun i => i = q)).setCell (p := ⟨q, 0, none⟩) (.inl rfl) _
  have hS : ∀ i, S i → ¬ i = q := fun i hi he => by subst he; exact x.ne hi
  have e1 := setCell_here x1.str 0 (.slice A2 (l.length - m) (c - m))
  generalize w1.setCell ⟨q, 0, none⟩ (.slice A2 (l.length - m) (c - m)) = w2 at *
  have r1 := x1.row.only o1 hS
  have hld : (l.drop m).length = l.length - m := List.length_drop
  have hlen := x.len
  have rD : Rb w2 S A2 (l.drop m) := by
    subst hA2
    have := Kd.C_drop (m := m) r1.row hm x.len
    refine ⟨by simpa [Kd.int, Kd.scalar] using this, fun hp a ha => ?_⟩
    rw [if_neg (by omega)] at ha
    rcases A with _ | a0
    · cases ha
    · simp only [Option.map_some, Option.some.injEq] at ha
      subst ha
      rw [add_blk]
      exact r1.blk (by omega) a0 rfl
  refine ⟨⟨A2, c - m, by rw [hld]; exact e1, by omega, rD, x.ne, fun hb => ?_, fun z hz => x.byt z (List.mem_of_mem_drop hz)⟩, o⟩
  have := x.z hb
  subst this
  simp

-- AUX segw
theorem add_at (a : Addr) (hs : a.spot = none) (k : Nat) : a.add k = ⟨a.block, a.off + k, none⟩ := by
  obtain ⟨b, o, s⟩ := a
  simp only at hs
  subst hs
  unfold Addr.add
  split <;> simp_all
theorem setCell_cell_ne {w : World} {b o : Nat} {u : Value} {cs : Array Value} {t : Nat} (hb : w.heap[b]? = some (.cells cs t (0, 0))) (p : Addr) (hp : p ≠ ⟨b, o, none⟩) : (w.setCell ⟨b, o, none⟩ u).cell? p = w.cell? p := by
  by_cases e : p.block = b
  · have h1 := setCell_here hb o u
    obtain ⟨pb, po, ps⟩ := p
    simp only at e
    subst e
    simp only [World.cell?, h1, hb]
    rcases ps with _ | s
    · have : po ≠ o := fun h => hp (by rw [h])
      simp [Array.getElem?_setIfInBounds, Ne.symm this]
    · rfl
  · exact cell_same (Below.heap_setCell w ⟨b, o, none⟩ u p.block e) p rfl
theorem Seg.set {w w' : World} {ad : Addr} {n k : Nat} (x : Seg w w' (some ad) n) (hs : ad.spot = none) (hk : k < n) {cs : Array Value} {t : Nat} (hb : w.heap[ad.block]? = some (.cells cs t (0, 0))) (u : Value) : Seg w (w'.setCell (ad.add k) u) (some ad) n := by
  obtain ⟨cs', hb'⟩ := x.kind ad rfl cs t hb
  rw [add_at ad hs]
  refine ⟨x.os, x.tape, x.output, by simp only [World.setCell, Array.size_modify]; exact x.size, fun i hi => ?_, fun a ha p hp hne => ?_, fun a ha cs0 t0 h0 => ?_⟩
  · exact (Below.heap_setCell w' ⟨ad.block, ad.off + k, none⟩ u i (hi (by omega) ad rfl)).trans (x.block i hi)
  · cases ha
    rw [setCell_cell_ne hb' p (by rw [← add_at ad hs]; exact hne k hk)]
    exact x.cell ad rfl p hp hne
  · cases ha
    rw [hb] at h0
    injection h0 with h0
    injection h0 with _ h2 _
    subst h2
    exact ⟨_, setCell_here hb' _ u⟩

-- AUX wrnew
theorem wr_new (W : World) : Wr (W.alloc (.cells #[.slice none 0 0] 28)) (fun i => i = W.heap.size) false (.pointer (some ⟨W.heap.size, 0, none⟩)) [] :=
  .inr ⟨rfl, W.heap.size, .slice none 0 0, rfl, rfl, heap_alloc_new W _, Kd.R_nil _ _ _ _ _⟩
theorem R_lit (W : World) (base : Nat) (xs : List Int) (h : base ≤ W.heap.size) (hl : xs.length ≤ 1000) : Kd.R (Kd.int .u8) 5 (W.alloc (.cells ((xs.map (Value.int .u8)).toArray) 5)) base (fun _ => True) (.slice (some ⟨W.heap.size, 0, none⟩) xs.length xs.length) xs :=
  Kd.R_of_own (enc := Value.int .u8) (h1 := fun _ => rfl) ⟨by simp [encs], .inr ⟨W.heap.size, xs.length, _, rfl, h, heap_alloc_new W _, Nat.le_refl _, by unfold maxLen; omega, by simp, by simp [encs, List.take_of_length_le]⟩⟩ (fun _ _ => trivial)

end Go.Proofs.Ytibpbihcbgcedaa.Hp
