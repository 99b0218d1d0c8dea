/- Contracts of functions of the given program, and what they lean on: written by this session's own program, out of hand texts laid into the kit's printer. -/
import Derived.Deep.DeepCutAuto
import Derived.Deep.CutBlock
import Derived.Deep.RegionWith
import Derived.Deep.DeepMust
import Derived.Test.YtdehifinipmmcaaHp0
import Derived.Test.YtdehifinipmmcaaHg1
import Derived.Test.YtdehifinipmmcaaHg4
import Derived.Test.YtdehifinipmmcaaHg5
import Derived.Test.YtdehifinipmmcaaHg6
import Derived.Test.YtdehifinipmmcaaHg7
import Derived.Test.YtdehifinipmmcaaHg10
import Derived.Test.YtdehifinipmmcaaHg11
import Derived.Test.YtdehifinipmmcaaHg13
import Derived.Test.YtdehifinipmmcaaHg14
import Derived.Test.YtdehifinipmmcaaHg15
namespace Go.Proofs.Ytdehifinipmmcaa.Hp
open Go.RowKit Go.Proofs.YtdehifinipmmcaaW.PrintWords Go.Proofs.YtdehifinipmmcaaW.PrintLast Go.Proofs.YtdehifinipmmcaaW.PrintMore
attribute [local go_sem] max2_int min2_int max_two min_two max_three min_three max_four min_four   -- for this text's walks alone
set_option linter.unusedVariables false
set_option linter.unusedSimpArgs false

/-! ### laminaref17_Take: function 30 -/
theorem S_only2 {α : Type} {d : Kd α} {e : Nat} {w w' : World} {base : Nat} {ok T : Nat → Prop} {v : Value} {xs : List α} (h : Kd.S d e w base ok v xs) (k : Only w w' T) (hd : ∀ i, ok i → ¬ T i) : Kd.S d e w' base ok v xs := Kd.S_step h (fun i ho hi => k.block i hi (hd i ho))
structure TmI (w wN : World) (S : Nat → Prop) (q : Nat) (l : List Int) (bad : Bool) : Prop where
  rm : Rm wN S q l bad
  bk : wN.heap[w.heap.size]? = some (.cells #[.int .i64 0, .int .i64 0, .slice none 0 0] 24 (0, 0))
  bel : Below w.heap.size w wN
  qw : w.heap.size < q
  sw : ∀ i, S i → w.heap.size < i ∧ i < q
theorem TmI.step {w wN wM : World} {S : Nat → Prop} {q : Nat} {l l' : List Int} {bad bad' : Bool} (x : TmI w wN S q l bad) (y : RmTo wN wM S q l' bad') : TmI w wM S q l' bad' :=
  ⟨y.rm, y.only.same_block x.bk (fun e => by have := x.qw; omega), x.bel.trans (y.only.below (B := w.heap.size) (fun i hi => by have := x.qw; omega) x.bel.size), x.qw, x.sw⟩
theorem TmI.only {w wN wM : World} {S T : Nat → Prop} {q : Nat} {l : List Int} {bad : Bool} (x : TmI w wN S q l bad) (k : Only wN wM T) (h : ∀ i, T i → q < i) : TmI w wM S q l bad :=
  ⟨x.rm.only k (fun i hi ht => by have := h i ht; have := (x.sw i hi).2; omega) (fun ht => by have := h q ht; omega), k.same_block x.bk (fun ht => by have := h _ ht; have := x.qw; omega), x.bel.trans (k.below (B := w.heap.size) (fun i hi => by have := h i hi; have := x.qw; omega) x.bel.size), x.qw, x.sw⟩
structure TmB (w : World) (B D E : Nat) (S : Nat → Prop) (q : Nat) (F T : Int) (v : Value) (rs : List S65) (wN : World) (l : List Int) (bad : Bool) : Prop where
  i : TmI w wN S q l bad
  d : wN.heap[D]? = some (.cells #[.int .i64 F, .int .i64 T, v] 24 (0, 0))
  s : Kd.S k65 65 wN B (fun i => B ≤ i ∧ i < E) v rs
  qd : q < D
  db : D < B
  be : B ≤ E
  ew : E ≤ wN.heap.size
theorem TmB.step {w wN wM : World} {B D E : Nat} {S : Nat → Prop} {q : Nat} {F T : Int} {v : Value} {rs : List S65} {l l' : List Int} {bad bad' : Bool} (x : TmB w B D E S q F T v rs wN l bad) (y : RmTo wN wM S q l' bad') : TmB w B D E S q F T v rs wM l' bad' :=
  ⟨x.i.step y, y.only.same_block x.d (fun e => by have := x.qd; omega), S_only2 x.s y.only (fun i hi e => by have := x.qd; have := x.db; omega), x.qd, x.db, x.be, Nat.le_trans x.ew y.only.size⟩
theorem TmB.far {w wN wM : World} {B D E : Nat} {S : Nat → Prop} {q : Nat} {F T : Int} {v : Value} {rs : List S65} {l : List Int} {bad : Bool} {U : Nat → Prop} (x : TmB w B D E S q F T v rs wN l bad) (o : Only wN wM U) (hU : ∀ i, U i → E ≤ i) : TmB w B D E S q F T v rs wM l bad :=
  ⟨x.i.only o (fun i hi => by have := hU i hi; have := x.qd; have := x.db; have := x.be; omega), o.same_block x.d (fun h => by have := hU _ h; have := x.db; have := x.be; omega), S_only2 x.s o (fun i hi h => by have := hU i h; omega), x.qd, x.db, x.be, Nat.le_trans x.ew o.size⟩
def leftM (l : List Int) (bad : Bool) : Nat := if bad = true then 0 else l.length + 1
def leftAt (w : World) (q : Nat) : Nat := match w.cell? ⟨q, 0, none⟩, w.cell? ⟨q, 1, none⟩ with
  | some (.slice _ n _), some (.bool bad) => if bad = true then 0 else n + 1
  | _, _ => 0
theorem leftAt_of {w : World} {S : Nat → Prop} {q : Nat} {l : List Int} {bad : Bool} (h : Rm w S q l bad) : leftAt w q = leftM l bad := by
  obtain ⟨A, c, x⟩ := h
  unfold leftAt leftM
  rw [cell_of x.str, cell_of x.str]
  rfl
theorem rdRec_left (l : List Int) : leftM (rdRec l false).2.1 (rdRec l false).2.2 < leftM l false := by
  unfold leftM
  rw [if_neg (show ¬ (false = true) by simp)]
  by_cases hb : (rdRec l false).2.2 = true
  · rw [if_pos hb]; omega
  · rw [if_neg hb]
    rcases Nat.eq_zero_or_pos l.length with h0 | h0
    · exfalso
      rw [List.eq_nil_of_length_eq_zero h0] at hb
      exact hb rfl
    · have := rdRec_lt l false h0
      omega
theorem stop_ok2 {k : Nat} {b : List Int} (h1 : k = 0 ∨ (k : Int) ≤ (rNn b).1) (h2 : ¬ ((k : Int) < (rNn b).1 ∧ (rSt k b).2.2 = false)) (h : OkD b) : OkK k b := by
  obtain ⟨F, T, l, hg, rfl⟩ := h
  obtain ⟨e1, e2, e3, e4, e5, e6⟩ := read_back hg
  have hk : k ≤ l.length := by rw [e4] at h1; omega
  have hkl : k = l.length := by
    rcases Nat.lt_or_ge k l.length with h | h
    · exfalso
      apply h2
      rw [e4, e6 k hk]
      exact ⟨by omega, rfl⟩
    · omega
  rw [hkl]
  exact (read_all hg).1
theorem numL_bytes (n : Int) : ∀ x ∈ numL n, 0 ≤ x ∧ x < 256 := by
  intro x hx
  unfold numL at hx
  obtain ⟨i, _, rfl⟩ := List.mem_map.1 hx
  omega
theorem recL_bytes (r : S61) (h : ∀ x ∈ r.f3, 0 ≤ x ∧ x < 256) : ∀ x ∈ recL r, 0 ≤ x ∧ x < 256 := by
  intro x hx
  unfold recL at hx
  rcases List.mem_append.1 hx with hx | hx
  · exact numL_bytes _ x hx
  rcases List.mem_append.1 hx with hx | hx
  · exact numL_bytes _ x hx
  rcases List.mem_append.1 hx with hx | hx
  · rw [List.mem_singleton] at hx
    subst hx
    split <;> omega
  · split at hx
    · cases hx
    · rcases List.mem_append.1 hx with hx | hx
      · exact numL_bytes _ x hx
      · exact h x hx
theorem putL_bytes (F T : Int) (l : List S61) (h : ∀ r ∈ l, ∀ x ∈ r.f3, 0 ≤ x ∧ x < 256) : ∀ x ∈ putL F T l, 0 ≤ x ∧ x < 256 := by
  intro x hx
  unfold putL headL titleL at hx
  rcases List.mem_append.1 hx with hx | hx
  · rcases List.mem_append.1 hx with hx | hx
    · rcases List.mem_append.1 hx with hx | hx
      · rcases List.mem_append.1 hx with hx | hx
        · rcases List.mem_append.1 hx with hx | hx
          · rcases List.mem_append.1 hx with hx | hx
            · exact numL_bytes _ x hx
            · exact (show ∀ x ∈ ([108, 97, 109, 105, 110, 97, 32, 100, 105, 102, 102, 32, 49] : List Int), 0 ≤ x ∧ x < 256 by decide) x hx
          · exact numL_bytes _ x hx
        · exact numL_bytes _ x hx
      · exact numL_bytes _ x hx
    · obtain ⟨r, hr, hx⟩ := List.mem_flatMap.1 hx
      exact recL_bytes r (h r hr) x hx
  · rw [List.mem_singleton] at hx
    omega
theorem numS_mem (l : List Int) (bad : Bool) : ∀ x ∈ (numS l bad).2.1, x ∈ l := by
  unfold numS
  split
  · rename_i b r h2
    obtain ⟨-, -, -, -, rfl⟩ := tkS_some h2
    exact fun x hx => List.mem_of_mem_drop hx
  · intro x hx; cases hx
theorem byteS_mem (l : List Int) (bad : Bool) : ∀ x ∈ (byteS l bad).2.1, x ∈ l := by
  unfold byteS
  split
  · rename_i b r h2
    obtain ⟨-, -, -, -, rfl⟩ := tkS_some h2
    exact fun x hx => List.mem_of_mem_drop hx
  · intro x hx; cases hx
theorem flagS_mem (l : List Int) (bad : Bool) : ∀ x ∈ (flagS l bad).2.1, x ∈ l := by
  unfold flagS
  split
  · intro x hx; cases hx
  · exact byteS_mem l bad
theorem bytesS_mem2 (l : List Int) (bad : Bool) : ∀ x ∈ (bytesS l bad).2.1, x ∈ l := by
  have hn := numS_mem l bad
  unfold bytesS
  split
  · rename_i b r h2
    obtain ⟨-, -, -, -, rfl⟩ := tkS_some h2
    exact fun x hx => hn x (List.mem_of_mem_drop hx)
  · intro x hx; cases hx
theorem rdRec_mem (l : List Int) (bad : Bool) : (∀ x ∈ (rdRec l bad).1.f3, x ∈ l) ∧ ∀ x ∈ (rdRec l bad).2.1, x ∈ l := by
  have h1 := numS_mem l bad
  have h2 := numS_mem (numS l bad).2.1 (numS l bad).2.2
  have h3 := flagS_mem (numS (numS l bad).2.1 (numS l bad).2.2).2.1 (numS (numS l bad).2.1 (numS l bad).2.2).2.2
  have h4 := bytesS_mem (flagS (numS (numS l bad).2.1 (numS l bad).2.2).2.1 (numS (numS l bad).2.1 (numS l bad).2.2).2.2).2.1 (flagS (numS (numS l bad).2.1 (numS l bad).2.2).2.1 (numS (numS l bad).2.1 (numS l bad).2.2).2.2).2.2
  have h5 := bytesS_mem2 (flagS (numS (numS l bad).2.1 (numS l bad).2.2).2.1 (numS (numS l bad).2.1 (numS l bad).2.2).2.2).2.1 (flagS (numS (numS l bad).2.1 (numS l bad).2.2).2.1 (numS (numS l bad).2.1 (numS l bad).2.2).2.2).2.2
  unfold rdRec
  split
  · exact ⟨(fun x hx => by cases hx), fun x hx => h1 x (h2 x (h3 x hx))⟩
  · exact ⟨fun x hx => h1 x (h2 x (h3 x (h4 x hx))), fun x hx => h1 x (h2 x (h3 x (h5 x hx)))⟩
theorem stR_mem (l : List Int) (bad : Bool) : ∀ k : Nat, (∀ r ∈ (stR k l bad).1, ∀ x ∈ r.f3, x ∈ l) ∧ ∀ x ∈ (stR k l bad).2.1, x ∈ l := by
  intro k
  induction k with
  | zero => exact ⟨(fun r hr => by cases hr), fun x hx => hx⟩
  | succ k ih =>
    have h := rdRec_mem (stR k l bad).2.1 (stR k l bad).2.2
    refine ⟨fun r hr x hx => ?_, fun x hx => ih.2 x (h.2 x hx)⟩
    rcases List.mem_append.1 hr with hr | hr
    · exact ih.1 r hr x hx
    · rw [List.mem_singleton] at hr
      subst hr
      exact ih.2 x (h.1 x hx)
theorem rSt_mem (b : List Int) (k : Nat) : ∀ r ∈ (rSt k b).1, ∀ x ∈ r.f3, x ∈ b := fun r hr x hx =>
  bytesS_mem2 b false x (numS_mem _ _ x (numS_mem _ _ x (numS_mem _ _ x ((stR_mem _ _ k).1 r hr x hx))))
theorem toP_toR (l : List S61) : (l.map toR).map toP = l := by
  rw [List.map_map]
  exact List.map_id' l
def RTakeP (w w' : World) (b : List Int) (F T : Int) (l : List S61) (v : Value) (ok : Bool) : Prop :=
  (ok = true ∧ goodD F T l = true ∧ putL F T l = b ∧ Kd.S k65 65 w' w.heap.size (fun _ => True) v (l.map toR)) ∨ (ok = false ∧ F = 0 ∧ T = 0 ∧ l = [] ∧ v = .slice none 0 0 ∧ ¬ OkD b)
def RTook (w : World) (b : List Int) (e : Ending) (w' : World) : Prop := ∃ (F T : Int) (l : List S61) (v : Value) (ok : Bool), e = .returned (.tuple #[.agg #[.int .i64 F, .int .i64 T, v], .bool ok]) ∧ RTakeP w w' b F T l v ok ∧ Below w.heap.size w w'
set_option maxRecDepth 100000 in
set_option maxHeartbeats 8000000 in
theorem laminaref17_Take.calls (A0 : Option Addr) (c0 : Nat) (b : List Int) (w : World) (hr0 : Kd.C (Kd.int .u8) w A0 b.length b) (hc0 : b.length ≤ c0) (hby : ∀ x ∈ b, 0 ≤ x ∧ x < 256) (hl0 : b.length ≤ 900000) :
    Calls Try.prog 30 #[.slice A0 b.length c0] w fun e w' => RTook w b e w' := by
  have HR0 := Aside0.mk (Rk.of_C hr0)
  have HBY := Aside0.mk hby
  clear hr0 hby
  go_enter Try.func30, Try.ntmps30
  go_wp2_with (first | ((with_reducible refine gate_builtin (b := .append) (xs := #[.tmp 10, .tmp 11]) rfl ?_); at_builtin; go_must (refine Kd.R_append_rows (Kd.int .u8) (w0 := w) w.heap.size rfl (.tmp 10) (.tmp 11) 25 5 (.int .u8 0) 1 rfl Try.underlying25 info5 rfl (by decide) (by omega) (.slice (some ⟨w.heap.size + 1, 0, none⟩) 0 0) [] b _ _ _ (fun _ => True) (fun _ => False) rfl rfl ((by have := R_empty (w.alloc (.cells #[.int .i64 0, .int .i64 0, .slice none 0 0] 24)) w.heap.size (by simp); simpa using this)) (Kd.C_alloc (Kd.C_alloc HR0.out.row (.cells #[.int .i64 0, .int .i64 0, .slice none 0 0] 24)) _) (fun _ _ h => h) (fun _ h => h.elim) (fun _ _ => trivial) (below_alloc (below_alloc (Below.refl _ w) _) _) (by (simp; omega)) (by (simp; omega)) ?_); intro v2 w2 ho hb hg hat; clear hat; simp only [List.nil_append] at ho; have hbk := blk_grown (blk_alloc (blk_new w (.cells #[.int .i64 0, .int .i64 0, .slice none 0 0] 24)) (.cells #[] 5)) hg (by simp [Value.ownBlock]); obtain ⟨A2, c2, rfl, hl2, -⟩ := Kd.R_reads ho; have HO2 := Aside0.mk ho; have HB2 := Aside0.mk hb; have HK2 := Aside0.mk hbk; clear ho hb hg hbk))
  have HRB := Aside0.mk (show Rb w2 (fun i => w.heap.size < i ∧ i < w2.heap.size) A2 b from ⟨(Kd.R_reads' HO2.out).2.2, fun hp a ha => by
    subst ha
    have h1 := Kd.R_base HO2.out a.block rfl
    have h2 := Kd.R_lt HO2.out a.block rfl
    have h3 := Kd.R_ne HO2.out HK2.out (by decide)
    exact ⟨Nat.lt_of_le_of_ne h1 (fun e => h3 (by rw [e]; rfl)), h2⟩⟩)
  have hw2 := blk_lt HK2.out
  have HM3 := Aside0.mk (show TmI w (w2.alloc (.cells #[.slice A2 b.length c2, .bool false] 88)) (fun i => w.heap.size < i ∧ i < w2.heap.size) w2.heap.size b false from
    ⟨⟨A2, c2, blk_new w2 _, hl2, HRB.out.below (below_alloc (Below.refl _ _) _), fun h => Nat.lt_irrefl _ h.2, (fun h => by cases h), HBY.out⟩, blk_alloc HK2.out _, below_alloc HB2.out _, hw2, fun i hi => hi⟩)
  generalize (fun i => w.heap.size < i ∧ i < w2.heap.size) = S at *
  generalize hW : w2.alloc (.cells #[.slice A2 b.length c2, .bool false] 88) = w3 at *
  clear hW HO2 HB2 HK2 HRB hw2
  generalize w2.heap.size = q at *
  have hb0 : b.length < 140737488355328 := by omega
  have hb1 : (rTt b).2.1.length ≤ b.length := (bytesS_le b false).1
  have hb2 : (rFr b).2.1.length ≤ b.length := Nat.le_trans (numS_le (rTt b).2.1 (rTt b).2.2) hb1
  have hb3 : (rTo b).2.1.length ≤ b.length := Nat.le_trans (numS_le (rFr b).2.1 (rFr b).2.2) hb2
  have hb4 : (rNn b).2.1.length ≤ b.length := Nat.le_trans (numS_le (rTo b).2.1 (rTo b).2.2) hb3
  refine (laminaref03_Reader_Bytes.calls S q b false w3 HM3.out.rm hb0).mono ?_
  rintro e w4 ⟨v4, rfl, ho4, hx⟩
  obtain ⟨A4, c4, rfl, -⟩ := Kd.R_reads ho4
  have hcv4 := Kd.C_string (P := Try.prog) (A := A4) (c := c4) Try.underlying25 Try.underlying5 Try.underlying9 (Kd.R_reads' ho4).2.2
  have HM4 := Aside0.mk (show TmI w w4 S q (rTt b).2.1 (rTt b).2.2 from HM3.out.step hx)
  have hNB := named_iff b HBY.out
  clear ho4 hx HM3
  go_wp2_with fail
  refine (laminaref03_Reader_Num.calls S q _ _ w4 HM4.out.rm (by omega)).mono ?_
  rintro e w5 ⟨rfl, hx⟩
  have HM5 := Aside0.mk (show TmI w w5 S q (rFr b).2.1 (rFr b).2.2 from HM4.out.step hx)
  rw [show (numS (rTt b).2.1 (rTt b).2.2).1 = (rFr b).1 from rfl]
  clear hx HM4 hcv4
  go_wp2_with fail
  have HD5 := Aside0.mk (blk_new w5 (.cells #[.int .i64 (rFr b).1, .int .i64 0, .slice none 0 0] 24))
  have hqD := HM5.out.rm.lt
  have HM6 := Aside0.mk (HM5.out.only ((Only.refl w5 (fun _ => False)).alloc (.cells #[.int .i64 (rFr b).1, .int .i64 0, .slice none 0 0] 24)) (fun _ h => h.elim))
  have hD6 : w5.heap.size < (w5.alloc (.cells #[.int .i64 (rFr b).1, .int .i64 0, .slice none 0 0] 24)).heap.size := by simp
  generalize hW : w5.alloc (.cells #[.int .i64 (rFr b).1, .int .i64 0, .slice none 0 0] 24) = w6 at *
  clear hW HM5
  generalize w5.heap.size = D at *
  refine (laminaref03_Reader_Num.calls S q _ _ w6 HM6.out.rm (by omega)).mono ?_
  rintro e w7 ⟨rfl, hx⟩
  have HM7 := Aside0.mk (show TmI w w7 S q (rTo b).2.1 (rTo b).2.2 from HM6.out.step hx)
  have HD7 := Aside0.mk (hx.only.same_block HD5.out (fun e => by omega))
  have hD7 := Nat.lt_of_lt_of_le hD6 hx.only.size
  rw [show (numS (rFr b).2.1 (rFr b).2.2).1 = (rTo b).1 from rfl]
  clear hx HM6 HD5 hD6
  have hk0 : w7.cell? ⟨D, 1, none⟩ = some (.int .i64 0) := (blk_cell HD7.out 1).trans rfl
  have hk1 : w7.frozen? ⟨D, 1, none⟩ = false := blk_frozen HD7.out 1
  go_wp2_with fail
  have HD8 := Aside0.mk (blk_put HD7.out 1 (.int .i64 (rTo b).1) rfl)
  have HM8 := Aside0.mk (HM7.out.only ((Only.refl w7 (fun i => i = D)).setCell (p := ⟨D, 1, none⟩) (Or.inl (Eq.refl D)) (.int .i64 (rTo b).1)) (fun i h => by omega))
  have hD8 : D < (w7.setCell ⟨D, 1, none⟩ (.int .i64 (rTo b).1)).heap.size := by rw [sz_set]; exact hD7
  clear hk0 hk1 HD7 HM7 hD7
  generalize hW : w7.setCell ⟨D, 1, none⟩ (.int .i64 (rTo b).1) = w8 at *
  clear hW
  refine (laminaref03_Reader_Num.calls S q _ _ w8 HM8.out.rm (by omega)).mono ?_
  rintro e w9 ⟨rfl, hx⟩
  have HM9 := Aside0.mk (show TmI w w9 S q (rSt 0 b).2.1 (rSt 0 b).2.2 from HM8.out.step hx)
  have HD9 := Aside0.mk (hx.only.same_block HD8.out (fun e => by omega))
  have hD9 := Nat.lt_of_lt_of_le hD8 hx.only.size
  rw [show (numS (rTo b).2.1 (rTo b).2.2).1 = (rNn b).1 from rfl]
  clear hx HM8 HD8 hD8
  go_upto_block 0 with fail
  go_cut [] (fun wx => ∃ (k : Nat) (v : Value), Aside0 (k = 0 ∨ (k : Int) ≤ (rNn b).1) ∧ Aside0 (¬ ((k : Int) < (rNn b).1 ∧ (rSt k b).2.2 = false)) ∧ Aside0 (TmB w w9.heap.size D wx.heap.size S q (rFr b).1 (rTo b).1 v ((rSt k b).1.map toR) wx (rSt k b).2.1 (rSt k b).2.2) ∧ Aside0 (k + leftM (rSt k b).2.1 (rSt k b).2.2 ≤ b.length + 1))
  case first =>
    go_wp2_with fail
    go_loopw [8] (fun v8 wr => ∃ (k : Nat) (v : Value), v8 = .int .i64 k ∧ Aside0 (k = 0 ∨ (k : Int) ≤ (rNn b).1) ∧ Aside0 (TmB w w9.heap.size D wr.heap.size S q (rFr b).1 (rTo b).1 v ((rSt k b).1.map toR) wr (rSt k b).2.1 (rSt k b).2.2) ∧ Aside0 (k + leftM (rSt k b).2.1 (rSt k b).2.2 ≤ b.length + 1)) (fun _ wr => leftAt wr q)
    case atStart =>
      refine ⟨0, .slice none 0 0, rfl, ⟨.inl rfl⟩, ⟨HM9.out, HD9.out, Kd.S_nil _ _ _ _ _, hqD, hD9, Nat.le_refl _, Nat.le_refl _⟩, ⟨?_⟩⟩
      show 0 + leftM (rNn b).2.1 (rNn b).2.2 ≤ b.length + 1
      unfold leftM
      split <;> omega
    case round =>
      clear HM9 HD9
      obtain ⟨k, v, rfl, HK, HB, HLN⟩ := hrel
      obtain ⟨Av, cv, rfl⟩ := Kd.S_slice HB.out.s
      have hlm : (rSt k b).2.2 = false → (rSt k b).2.1.length ≤ b.length := fun h => by have := HLN.out; unfold leftM at this; rw [if_neg (by simp [h])] at this; omega
      obtain ⟨Ar, cr, hcur⟩ := HB.out.i.rm
      have hbz := hcur.z
      have hq1 : wr.cell? ⟨q, 1, none⟩ = some (.bool (rSt k b).2.2) := (blk_cell hcur.str 1).trans rfl
      have hkl : k ≤ b.length + 1 := by have := HLN.out; omega
      clear hcur
      by_cases hgo : (k : Int) < (rNn b).1 ∧ (rSt k b).2.2 = false
      · have HGO := Aside0.mk hgo
        obtain ⟨hkn, hbf⟩ := hgo
        have hl := hlm hbf
        rw [hbf] at hq1
        have HBF := Aside0.mk hbf
        have HRL := Aside0.mk (show (rSt k b).1.length = k from stR_len _ _ _)
        have HLF := Aside0.mk (leftAt_of HB.out.i.rm)
        have HLE := Aside0.mk (rdRec_left (rSt k b).2.1)
        have HSS := Aside0.mk (show rSt (k + 1) b = ((rSt k b).1 ++ [(rdRec (rSt k b).2.1 (rSt k b).2.2).1], (rdRec (rSt k b).2.1 (rSt k b).2.2).2.1, (rdRec (rSt k b).2.1 (rSt k b).2.2).2.2) from rfl)
        have hvk : (((rSt k b).1.map toR).length) = k := by rw [List.length_map]; exact HRL.out
        rw [hbf] at HSS HLF
        rw [hbf, hvk] at HB
        have HVO := Aside0.mk (fun i (hi : (Value.slice Av k cv).ownBlock = some i) => (And.intro (Kd.S_base HB.out.s i hi) (Kd.S_lt HB.out.s i hi) : w9.heap.size ≤ i ∧ i < wr.heap.size))
        have HLEN := Aside0.mk (show (((rSt k b).1.map toR).length + 1) * 48 ≤ 140737488355328 by rw [hvk]; omega)
        have HBE := Aside0.mk HB.out.be
        clear hq1
        have hq1 : wr.cell? ⟨q, 1, none⟩ = some (.bool false) := by obtain ⟨Ar, cr, hcur⟩ := HB.out.i.rm; exact (blk_cell hcur.str 1).trans rfl
        have hq0 : wr.cell? ⟨D, 2, none⟩ = some (.slice Av k cv) := (blk_cell HB.out.d 2).trans rfl
        clear hlm hbz hvk
        go_wp2_with fail
        refine (laminaref03_Reader_Num.calls S q _ _ wr HB.out.i.rm (by omega)).mono ?_
        rintro e wa ⟨rfl, hx⟩
        have HBa := Aside0.mk (HB.out.step hx)
        have hre : rdRec (rSt k b).2.1 false = (if (flagS (numS (numS (rSt k b).2.1 false).2.1 (numS (rSt k b).2.1 false).2.2).2.1 (numS (numS (rSt k b).2.1 false).2.1 (numS (rSt k b).2.1 false).2.2).2.2).1 = true then _ else _) := rfl
        have hl1 := Nat.le_trans (numS_le (rSt k b).2.1 false) hl
        have hEa := HBa.out.ew
        clear hx hq1 hq0 HB
        generalize wr.heap.size = E at *
        generalize numS (rSt k b).2.1 false = q1 at *
        go_wp2_with fail
        have hKX := blk_new wa (.cells #[.int .i64 q1.1, .int .i64 0, .bool false, .slice none 0 0] 65)
        have HBb := Aside0.mk (HBa.out.far ((Only.refl wa (fun _ => False)).alloc (.cells #[.int .i64 q1.1, .int .i64 0, .bool false, .slice none 0 0] 65)) (fun _ h => h.elim))
        have hXb : wa.heap.size < (wa.alloc (.cells #[.int .i64 q1.1, .int .i64 0, .bool false, .slice none 0 0] 65)).heap.size := by simp
        have hXE : E ≤ wa.heap.size := hEa
        generalize hW : wa.alloc (.cells #[.int .i64 q1.1, .int .i64 0, .bool false, .slice none 0 0] 65) = wb at *
        clear hW HBa
        generalize wa.heap.size = X at *
        have HKX := Aside0.mk hKX
        clear hKX hEa
        refine (laminaref03_Reader_Num.calls S q _ _ wb HBb.out.i.rm (by omega)).mono ?_
        rintro e wc ⟨rfl, hx⟩
        have HBc := Aside0.mk (HBb.out.step hx)
        have hKc := hx.only.same_block HKX.out (fun e => by have := hXE; have := HBE.out; omega)
        have hXc := Nat.lt_of_lt_of_le hXb hx.only.size
        have hl2 := Nat.le_trans (numS_le q1.2.1 q1.2.2) hl1
        generalize numS q1.2.1 q1.2.2 = q2 at *
        have ha0 : wc.cell? ⟨X, 1, none⟩ = some (.int .i64 0) := (blk_cell hKc 1).trans rfl
        have ha1 : wc.frozen? ⟨X, 1, none⟩ = false := blk_frozen hKc 1
        have HKc := Aside0.mk hKc
        clear hx HBb HKX hKc hXb
        go_wp2_with fail
        have HKd := Aside0.mk (blk_put HKc.out 1 (.int .i64 q2.1) rfl)
        have HBd := Aside0.mk (HBc.out.far ((Only.refl wc (fun i => i = X)).setCell (p := ⟨X, 1, none⟩) (Or.inl (Eq.refl X)) (.int .i64 q2.1)) (fun i h => by omega))
        have hXd : X < (wc.setCell ⟨X, 1, none⟩ (.int .i64 q2.1)).heap.size := by rw [sz_set]; exact hXc
        clear ha0 ha1 HKc HBc hXc
        generalize hW : wc.setCell ⟨X, 1, none⟩ (.int .i64 q2.1) = wd at *
        clear hW
        refine (laminaref03_Reader_Flag.calls S q _ _ wd HBd.out.i.rm (by omega)).mono ?_
        rintro e we ⟨rfl, hx⟩
        have HBe := Aside0.mk (HBd.out.step hx)
        have hKe := hx.only.same_block HKd.out (fun e => by have := hXE; have := HBE.out; omega)
        have hXe := Nat.lt_of_lt_of_le hXd hx.only.size
        have hl3 := Nat.le_trans (flagS_le q2.2.1 q2.2.2) hl2
        generalize flagS q2.2.1 q2.2.2 = q3 at *
        obtain ⟨z, l3, b3⟩ := q3
        simp only at hre hl3 HBe
        have ha0 : we.cell? ⟨X, 2, none⟩ = some (.bool false) := (blk_cell hKe 2).trans rfl
        have ha1 : we.frozen? ⟨X, 2, none⟩ = false := blk_frozen hKe 2
        have HKe := Aside0.mk (blk_put hKe 2 (.bool z) rfl)
        have HBe := Aside0.mk (HBe.out.far ((Only.refl we (fun i => i = X)).setCell (p := ⟨X, 2, none⟩) (Or.inl (Eq.refl X)) (.bool z)) (fun i h => by omega))
        have hXf : X < (we.setCell ⟨X, 2, none⟩ (.bool z)).heap.size := by rw [sz_set]; exact hXe
        clear hx HBd HKd hKe hXd hXe
        have HNX := Aside0.mk (show ∀ i, i = X → E ≤ i from fun i h => by omega)
        cases z
        · rw [if_neg (by simp)] at hre
          have HRE := Aside0.mk hre
          have ha2 : (we.setCell ⟨X, 2, none⟩ (.bool false)).cell? ⟨X, 2, none⟩ = some (.bool false) := (blk_cell HKe.out 2).trans rfl
          clear hre
          go_wp2_with fail
          clear ha0 ha1 ha2
          generalize hW : we.setCell ⟨X, 2, none⟩ (.bool false) = wf at *
          clear hW
          refine (laminaref03_Reader_Bytes.calls S q _ _ wf HBe.out.i.rm (by omega)).mono ?_
          rintro e wg ⟨vd, rfl, hod, hx⟩
          obtain ⟨Ad, cd, rfl, -⟩ := Kd.R_reads hod
          have HBg := Aside0.mk (HBe.out.step hx)
          have hKg := hx.only.same_block HKe.out (fun e => by have := hXE; have := HBE.out; omega)
          have hXg := Nat.lt_of_lt_of_le hXf hx.only.size
          have HOD := Aside0.mk (Kd.R_mono (Kd.R_bound hod) (ok' := fun i => wf.heap.size ≤ i) (fun i hi => hi.2.1))
          have hEf : E ≤ wf.heap.size := HBe.out.ew
          have HDL := Aside0.mk (rfl : (bytesS l3 b3).1 = (bytesS l3 b3).1)
          generalize hdd : (bytesS l3 b3).1 = d at *
          clear hdd HDL
          have HOKP := Aside0.mk (fun i (hi : wf.heap.size ≤ i) => (Nat.le_trans HBE.out (Nat.le_trans hEf hi) : w9.heap.size ≤ i))
          have HOKE := Aside0.mk (fun i (hi : wf.heap.size ≤ i) => (Nat.le_trans hEf hi : E ≤ i))
          have HBh := Aside0.mk (HBg.out.far ((Only.refl wg (fun i => i = X)).setCell (p := ⟨X, 3, none⟩) (Or.inl (Eq.refl X)) (.slice Ad d.length cd)) HNX.out)
          have HODh := Aside0.mk (Kd.R_far (p := ⟨X, 3, none⟩) HOD.out (fun i hi => by show i ≠ X; have := hXf; omega) (.slice Ad d.length cd))
          have hc0 : wg.cell? ⟨X, 0, none⟩ = some (.int .i64 q1.1) := (blk_cell hKg 0).trans rfl
          have hc1 : wg.cell? ⟨X, 1, none⟩ = some (.int .i64 q2.1) := (blk_cell hKg 1).trans rfl
          have hc2 : wg.cell? ⟨X, 2, none⟩ = some (.bool false) := (blk_cell hKg 2).trans rfl
          have hc3 : wg.cell? ⟨X, 3, none⟩ = some (.slice none 0 0) := (blk_cell hKg 3).trans rfl
          have hcf : wg.frozen? ⟨X, 3, none⟩ = false := blk_frozen hKg 3
          have hcd : (wg.setCell ⟨X, 3, none⟩ (.slice Ad d.length cd)).cell? ⟨D, 2, none⟩ = some (.slice Av k cv) := (blk_cell HBh.out.d 2).trans rfl
          clear hod hx HBe hKg HOD
          go_wp2_with (((with_reducible refine gate_builtin (b := .append) (xs := #[.tmp 54, .tmp 56]) rfl ?_); at_builtin; go_must (refine Kd.S_append k65 (w0 := wg.setCell ⟨X, 3, none⟩ (.slice Ad d.length cd)) w9.heap.size rfl (.tmp 54) (.tmp 56) 22 65 (.agg #[.int .i64 0, .int .i64 0, .bool false, .slice none 0 0]) 48 rfl Try.underlying22 info65 rfl (by decide) (by omega) (.slice Av k cv) ((rSt k b).1.map toR) (⟨q1.1, q2.1, false, d⟩ : S65) [.int .i64 q1.1, .int .i64 q2.1, .bool false, .slice Ad d.length cd] (fun i => w9.heap.size ≤ i) (fun i => wf.heap.size ≤ i) rfl (by rw [sz_set]; rfl) (k65_mkM _ _ _ (⟨q1.1, q2.1, false, d⟩ : S65) (Kd.R_lower HODh.out (Nat.le_trans HBE.out hEf))) (fun i hi => ⟨HOKP.out i hi, fun e => by have := HVO.out i e.symm; have := HOKE.out i hi; omega⟩) (fun i hi => Nat.le_trans HBE.out (Nat.le_trans HBh.out.ew hi)) (Kd.S_mono HBh.out.s (fun i hi => ⟨hi.1, fun h => by have := HOKE.out i h; omega⟩)) (Below.refl _ _) (Nat.le_trans HBE.out HBh.out.ew) HLEN.out ?_); intro v1 w12 hs hb hg hat; clear hb hat; obtain ⟨A12, c12, rfl⟩ := Kd.S_slice hs; have hbD := blk_grown HBh.out.d hg (fun e => by have := HVO.out _ e.symm; omega); have hv2 : w12.cell? ⟨D, 2, none⟩ = some (.slice Av k cv) := (blk_cell hbD 2).trans rfl; have hvf : w12.frozen? ⟨D, 2, none⟩ = false := blk_frozen hbD 2; have HBD := Aside0.mk hbD; have HS12 := Aside0.mk hs; have HG12 := Aside0.mk hg; clear hs hg hbD))
          all_goals (
            have o3 : Only _ (w12.setCell ⟨D, 2, none⟩ (.slice A12 (((rSt k b).1.map toR) ++ [(⟨q1.1, q2.1, false, d⟩ : S65)]).length c12)) (fun i => i = D ∨ w9.heap.size ≤ i) := (Only.of_grown HG12.out (S := fun i => i = D ∨ w9.heap.size ≤ i) (fun i hi => .inr (HVO.out i hi).1)).setCell (p := ⟨D, 2, none⟩) (Or.inl (Or.inl (Eq.refl D))) _
            have hIE := HBh.out.i.only o3 (fun i hi => by omega)
            have e2 : (rSt (k + 1) b).1.map toR = (rSt k b).1.map toR ++ [(⟨q1.1, q2.1, false, d⟩ : S65)] := by rw [HSS.out, HRE.out, List.map_append]; rfl
            have e1 : (rSt (k + 1) b).2 = ((bytesS l3 b3).2.1, (bytesS l3 b3).2.2) := by rw [HSS.out, HRE.out]
            have hlf := leftAt_of hIE.rm
            have hle := HLE.out
            rw [HRE.out] at hle
            dsimp only at hle
            have hss := HS12.out
            simp only [List.length_append, List.length_map, List.length_singleton] at o3 hIE hlf hss ⊢
            rw [HRL.out] at o3 hIE hlf hss ⊢
            refine ⟨⟨k + 1, _, by go_num, ⟨.inr (by have := HGO.out.1; omega)⟩, ⟨by rw [e1]; exact hIE, blk_put HBD.out 2 _ rfl, ?_, by omega, by omega, by have := o3.size; have := HBh.out.ew; have := HBE.out; omega, Nat.le_refl _⟩, ⟨by rw [e1]; have := HLN.out; rw [HBF.out] at this; simp only; omega⟩⟩, ?_⟩
            · rw [e2]
              have h1 := Kd.S_far (p := ⟨D, 2, none⟩) (Kd.S_mono (Kd.S_bound hss) (ok' := fun i => w9.heap.size ≤ i ∧ i < w12.heap.size) (fun i hi => ⟨hi.2.1, hi.2.2.1⟩)) (fun i hi => by show i ≠ D; omega) (.slice A12 (k + 1) c12)
              exact Kd.S_mono h1 (fun i hi => ⟨hi.1, by rw [sz_set]; exact hi.2⟩)
            · rw [hlf, HLF.out]
              exact hle
  )
        · rw [if_pos rfl] at hre
          have HRE := Aside0.mk hre
          have hd0 : (we.setCell ⟨X, 2, none⟩ (.bool true)).cell? ⟨X, 0, none⟩ = some (.int .i64 q1.1) := (blk_cell HKe.out 0).trans rfl
          have hd1 : (we.setCell ⟨X, 2, none⟩ (.bool true)).cell? ⟨X, 1, none⟩ = some (.int .i64 q2.1) := (blk_cell HKe.out 1).trans rfl
          have ha2 : (we.setCell ⟨X, 2, none⟩ (.bool true)).cell? ⟨X, 2, none⟩ = some (.bool true) := (blk_cell HKe.out 2).trans rfl
          have ha3 : (we.setCell ⟨X, 2, none⟩ (.bool true)).cell? ⟨X, 3, none⟩ = some (.slice none 0 0) := (blk_cell HKe.out 3).trans rfl
          have hcd : (we.setCell ⟨X, 2, none⟩ (.bool true)).cell? ⟨D, 2, none⟩ = some (.slice Av k cv) := (blk_cell HBe.out.d 2).trans rfl
          have HOKP := Aside0.mk (fun i (hi : False) => (hi.elim : w9.heap.size ≤ i))
          have HOKE := Aside0.mk (fun i (hi : False) => (hi.elim : E ≤ i))
          clear hre
          go_wp2_with (((with_reducible refine gate_builtin (b := .append) (xs := #[.tmp 54, .tmp 56]) rfl ?_); at_builtin; go_must (refine Kd.S_append k65 (w0 := (we.setCell ⟨X, 2, none⟩ (.bool true))) w9.heap.size rfl (.tmp 54) (.tmp 56) 22 65 (.agg #[.int .i64 0, .int .i64 0, .bool false, .slice none 0 0]) 48 rfl Try.underlying22 info65 rfl (by decide) (by omega) (.slice Av k cv) ((rSt k b).1.map toR) (⟨q1.1, q2.1, true, []⟩ : S65) [.int .i64 q1.1, .int .i64 q2.1, .bool true, .slice none 0 0] (fun i => w9.heap.size ≤ i) (fun _ => False) rfl (by rw [sz_set]; rfl) (k65_mkM _ _ _ (⟨q1.1, q2.1, true, []⟩ : S65) (Kd.R_nil _ _ _ _ _)) (fun i hi => ⟨HOKP.out i hi, fun e => by have := HVO.out i e.symm; have := HOKE.out i hi; omega⟩) (fun i hi => Nat.le_trans HBE.out (Nat.le_trans HBe.out.ew hi)) (Kd.S_mono HBe.out.s (fun i hi => ⟨hi.1, fun h => by have := HOKE.out i h; omega⟩)) (Below.refl _ _) (Nat.le_trans HBE.out HBe.out.ew) HLEN.out ?_); intro v1 w12 hs hb hg hat; clear hb hat; obtain ⟨A12, c12, rfl⟩ := Kd.S_slice hs; have hbD := blk_grown HBe.out.d hg (fun e => by have := HVO.out _ e.symm; omega); have hv2 : w12.cell? ⟨D, 2, none⟩ = some (.slice Av k cv) := (blk_cell hbD 2).trans rfl; have hvf : w12.frozen? ⟨D, 2, none⟩ = false := blk_frozen hbD 2; have HBD := Aside0.mk hbD; have HS12 := Aside0.mk hs; have HG12 := Aside0.mk hg; clear hs hg hbD))
          all_goals (
            have o3 : Only _ (w12.setCell ⟨D, 2, none⟩ (.slice A12 (((rSt k b).1.map toR) ++ [(⟨q1.1, q2.1, true, []⟩ : S65)]).length c12)) (fun i => i = D ∨ w9.heap.size ≤ i) := (Only.of_grown HG12.out (S := fun i => i = D ∨ w9.heap.size ≤ i) (fun i hi => .inr (HVO.out i hi).1)).setCell (p := ⟨D, 2, none⟩) (Or.inl (Or.inl (Eq.refl D))) _
            have hIE := HBe.out.i.only o3 (fun i hi => by omega)
            have e2 : (rSt (k + 1) b).1.map toR = (rSt k b).1.map toR ++ [(⟨q1.1, q2.1, true, []⟩ : S65)] := by rw [HSS.out, HRE.out, List.map_append]; rfl
            have e1 : (rSt (k + 1) b).2 = (l3, b3) := by rw [HSS.out, HRE.out]
            have hlf := leftAt_of hIE.rm
            have hle := HLE.out
            rw [HRE.out] at hle
            dsimp only at hle
            have hss := HS12.out
            simp only [List.length_append, List.length_map, List.length_singleton] at o3 hIE hlf hss ⊢
            rw [HRL.out] at o3 hIE hlf hss ⊢
            refine ⟨⟨k + 1, _, by go_num, ⟨.inr (by have := HGO.out.1; omega)⟩, ⟨by rw [e1]; exact hIE, blk_put HBD.out 2 _ rfl, ?_, by omega, by omega, by have := o3.size; have := HBe.out.ew; have := HBE.out; omega, Nat.le_refl _⟩, ⟨by rw [e1]; have := HLN.out; rw [HBF.out] at this; simp only; omega⟩⟩, ?_⟩
            · rw [e2]
              have h1 := Kd.S_far (p := ⟨D, 2, none⟩) (Kd.S_mono (Kd.S_bound hss) (ok' := fun i => w9.heap.size ≤ i ∧ i < w12.heap.size) (fun i hi => ⟨hi.2.1, hi.2.2.1⟩)) (fun i hi => by show i ≠ D; omega) (.slice A12 (k + 1) c12)
              exact Kd.S_mono h1 (fun i hi => ⟨hi.1, by rw [sz_set]; exact hi.2⟩)
            · rw [hlf, HLF.out]
              exact hle
  )
      · have HEX := Aside0.mk hgo
        have hex : ((k : Int) < (rNn b).1 ∧ (rSt k b).2.2 = true) ∨ ¬ (k : Int) < (rNn b).1 := by
          by_cases h : (k : Int) < (rNn b).1
          · exact .inl ⟨h, by cases hb : (rSt k b).2.2 <;> simp_all⟩
          · exact .inr h
        clear hgo hlm hbz
        rcases hex with ⟨hkn, hbt⟩ | hkn
        all_goals (
          try rw [hbt] at hq1
          try clear hbt
          go_wp2
          go_meet
          exact ⟨k, _, HK, HEX, HB, HLN⟩)
  case rest =>
    obtain ⟨k, v, HK, HEX, HB, HLN⟩ := hcut
    obtain ⟨Av, cv, rfl⟩ := Kd.S_slice HB.out.s
    have hvk : (((rSt k b).1.map toR).length) = k := by rw [List.length_map]; exact stR_len _ _ _
    have HVK := Aside0.mk hvk
    rw [hvk] at HB
    have hkl : k ≤ b.length + 1 := by have := HLN.out; omega
    have hlb : (rSt k b).2.1.length ≤ b.length := by
      obtain ⟨Ar, cr, hcur⟩ := HB.out.i.rm
      cases hb : (rSt k b).2.2
      · have := HLN.out; unfold leftM at this; rw [if_neg (by simp [hb])] at this; omega
      · rw [hcur.z hb]; exact Nat.zero_le _
    have HBq := Aside0.mk (HB.out.far (Only.refl wc (fun _ => False)).drew (fun _ h => h.elim))
    clear hvk
    go_upto_region 15 with fail
    go_cut [92] (fun s92 wx => ∃ (bb : Bool) (l' : List Int) (bad' : Bool), s92 = .bool bb ∧ Aside0 (TmB w w9.heap.size D wc.heap.size S q (rFr b).1 (rTo b).1 (.slice Av k cv) ((rSt k b).1.map toR) wx l' bad') ∧ Aside0 ((bb = true ∧ ¬ OkD b) ∨ (bb = false ∧ goodD (rFr b).1 (rTo b).1 (rSt k b).1 = true ∧ putL (rFr b).1 (rTo b).1 (rSt k b).1 = b)))
    case first =>
      by_cases htt : (rTt b).1 = ttL
      case neg =>
        have HTT := Aside0.mk htt
        rw [decide_eq_false htt] at hNB
        clear htt
        go_quiet (fail)
        all_goals (go_wp2_with fail; go_meet; exact ⟨true, _, _, rfl, ⟨HB.out.far ((Only.refl wc (fun _ => False)).drewN _) (fun _ h => h.elim)⟩, ⟨.inl ⟨rfl, fun h => HTT.out (stop_ok2 HK.out HEX.out h).2.1⟩⟩⟩)
      rw [decide_eq_true htt] at hNB
      have HTT := Aside0.mk htt
      clear htt
      by_cases h69 : (rLa k b).1 = 69
      case neg =>
        have HNE := Aside0.mk h69
        first | (go_region_with ((go_at_call 57; refine (laminaref03_Reader_Byte.calls S q _ _ _ HBq.out.i.rm (by omega)).mono ?_; rintro e wx ⟨rfl, hx⟩; rw [show (byteS (rSt k b).2.1 (rSt k b).2.2).1 = (rLa k b).1 from rfl]; have HBx := Aside0.mk (HBq.out.step hx); obtain ⟨Ax, cx, hcx⟩ := HBx.out.i.rm; have hxq0 : wx.cell? ⟨q, 0, none⟩ = some (.slice Ax (rLa k b).2.1.length cx) := (blk_cell hcx.str 0).trans rfl; have hxq1 : wx.cell? ⟨q, 1, none⟩ = some (.bool (rLa k b).2.2) := (blk_cell hcx.str 1).trans rfl; have hxd0 : wx.cell? ⟨D, 0, none⟩ = some (.int .i64 (rFr b).1) := (blk_cell HBx.out.d 0).trans rfl; have hxd1 : wx.cell? ⟨D, 1, none⟩ = some (.int .i64 (rTo b).1) := (blk_cell HBx.out.d 1).trans rfl; have hxd2 : wx.cell? ⟨D, 2, none⟩ = some (.slice Av k cv) := (blk_cell HBx.out.d 2).trans rfl; have hy0 : wx.cell? ⟨w.heap.size, 0, none⟩ = some (.int .i64 0) := (blk_cell HBx.out.i.bk 0).trans rfl; have hy1 : wx.cell? ⟨w.heap.size, 1, none⟩ = some (.int .i64 0) := (blk_cell HBx.out.i.bk 1).trans rfl; have hy2 : wx.cell? ⟨w.heap.size, 2, none⟩ = some (.slice none 0 0) := (blk_cell HBx.out.i.bk 2).trans rfl; have hf0 : wx.frozen? ⟨w.heap.size, 0, none⟩ = false := blk_frozen HBx.out.i.bk 0; have hf1 : wx.frozen? ⟨w.heap.size, 1, none⟩ = false := blk_frozen HBx.out.i.bk 1; have hf2 : wx.frozen? ⟨w.heap.size, 2, none⟩ = false := blk_frozen HBx.out.i.bk 2; clear hcx hx))) | fail
        all_goals (go_wp2_with fail; go_meet; exact ⟨true, _, _, rfl, HBx, ⟨.inl ⟨rfl, fun h => HNE.out (stop_ok2 HK.out HEX.out h).2.2.1⟩⟩⟩)
      have H69 := Aside0.mk h69
      clear h69
      cases hbd : (rLa k b).2.2
      case true =>
        have HBD := Aside0.mk hbd
        clear hbd
        first | (go_region_with ((go_at_call 57; refine (laminaref03_Reader_Byte.calls S q _ _ _ HBq.out.i.rm (by omega)).mono ?_; rintro e wx ⟨rfl, hx⟩; rw [show (byteS (rSt k b).2.1 (rSt k b).2.2).1 = (rLa k b).1 from rfl]; have HBx := Aside0.mk (HBq.out.step hx); obtain ⟨Ax, cx, hcx⟩ := HBx.out.i.rm; have hxq0 : wx.cell? ⟨q, 0, none⟩ = some (.slice Ax (rLa k b).2.1.length cx) := (blk_cell hcx.str 0).trans rfl; have hxq1 : wx.cell? ⟨q, 1, none⟩ = some (.bool (rLa k b).2.2) := (blk_cell hcx.str 1).trans rfl; have hxd0 : wx.cell? ⟨D, 0, none⟩ = some (.int .i64 (rFr b).1) := (blk_cell HBx.out.d 0).trans rfl; have hxd1 : wx.cell? ⟨D, 1, none⟩ = some (.int .i64 (rTo b).1) := (blk_cell HBx.out.d 1).trans rfl; have hxd2 : wx.cell? ⟨D, 2, none⟩ = some (.slice Av k cv) := (blk_cell HBx.out.d 2).trans rfl; have hy0 : wx.cell? ⟨w.heap.size, 0, none⟩ = some (.int .i64 0) := (blk_cell HBx.out.i.bk 0).trans rfl; have hy1 : wx.cell? ⟨w.heap.size, 1, none⟩ = some (.int .i64 0) := (blk_cell HBx.out.i.bk 1).trans rfl; have hy2 : wx.cell? ⟨w.heap.size, 2, none⟩ = some (.slice none 0 0) := (blk_cell HBx.out.i.bk 2).trans rfl; have hf0 : wx.frozen? ⟨w.heap.size, 0, none⟩ = false := blk_frozen HBx.out.i.bk 0; have hf1 : wx.frozen? ⟨w.heap.size, 1, none⟩ = false := blk_frozen HBx.out.i.bk 1; have hf2 : wx.frozen? ⟨w.heap.size, 2, none⟩ = false := blk_frozen HBx.out.i.bk 2; clear hcx hx; rw [H69.out]; rw [HBD.out] at hxq1))) | fail
        all_goals (go_wp2_with fail; go_meet; exact ⟨true, _, _, rfl, HBx, ⟨.inl ⟨rfl, fun h => by have := (stop_ok2 HK.out HEX.out h).2.2.2.1; unfold endE at this; rw [if_pos (Or.inl HBD.out)] at this; cases this⟩⟩⟩)
      have HBD := Aside0.mk hbd
      clear hbd
      by_cases hlen : 0 < (rLa k b).2.1.length
      case pos =>
        have HLE := Aside0.mk hlen
        first | (go_region_with ((go_at_call 57; refine (laminaref03_Reader_Byte.calls S q _ _ _ HBq.out.i.rm (by omega)).mono ?_; rintro e wx ⟨rfl, hx⟩; rw [show (byteS (rSt k b).2.1 (rSt k b).2.2).1 = (rLa k b).1 from rfl]; have HBx := Aside0.mk (HBq.out.step hx); obtain ⟨Ax, cx, hcx⟩ := HBx.out.i.rm; have hxq0 : wx.cell? ⟨q, 0, none⟩ = some (.slice Ax (rLa k b).2.1.length cx) := (blk_cell hcx.str 0).trans rfl; have hxq1 : wx.cell? ⟨q, 1, none⟩ = some (.bool (rLa k b).2.2) := (blk_cell hcx.str 1).trans rfl; have hxd0 : wx.cell? ⟨D, 0, none⟩ = some (.int .i64 (rFr b).1) := (blk_cell HBx.out.d 0).trans rfl; have hxd1 : wx.cell? ⟨D, 1, none⟩ = some (.int .i64 (rTo b).1) := (blk_cell HBx.out.d 1).trans rfl; have hxd2 : wx.cell? ⟨D, 2, none⟩ = some (.slice Av k cv) := (blk_cell HBx.out.d 2).trans rfl; have hy0 : wx.cell? ⟨w.heap.size, 0, none⟩ = some (.int .i64 0) := (blk_cell HBx.out.i.bk 0).trans rfl; have hy1 : wx.cell? ⟨w.heap.size, 1, none⟩ = some (.int .i64 0) := (blk_cell HBx.out.i.bk 1).trans rfl; have hy2 : wx.cell? ⟨w.heap.size, 2, none⟩ = some (.slice none 0 0) := (blk_cell HBx.out.i.bk 2).trans rfl; have hf0 : wx.frozen? ⟨w.heap.size, 0, none⟩ = false := blk_frozen HBx.out.i.bk 0; have hf1 : wx.frozen? ⟨w.heap.size, 1, none⟩ = false := blk_frozen HBx.out.i.bk 1; have hf2 : wx.frozen? ⟨w.heap.size, 2, none⟩ = false := blk_frozen HBx.out.i.bk 2; clear hcx hx; rw [H69.out]; rw [HBD.out] at hxq1))) | fail
        all_goals (go_wp2_with fail; go_meet; exact ⟨true, _, _, rfl, HBx, ⟨.inl ⟨rfl, fun h => by have := (stop_ok2 HK.out HEX.out h).2.2.2.1; unfold endE at this; rw [if_pos (Or.inr HLE.out)] at this; cases this⟩⟩⟩)
      have hen : endE (rLa k b).2.1 (rLa k b).2.2 = none := by unfold endE; rw [if_neg (fun h => by rcases h with h | h; (rw [HBD.out] at h; cases h); omega)]
      have hlen0 : (rLa k b).2.1.length = 0 := by omega
      have HEN := Aside0.mk hen
      clear hen hlen
      cases hgv : goodD (rFr b).1 (rTo b).1 (rSt k b).1
      case false =>
        have HGV := Aside0.mk hgv
        clear hgv
        first | (go_region_with (first | (go_at_call 57; refine (laminaref03_Reader_Byte.calls S q _ _ _ HBq.out.i.rm (by omega)).mono ?_; rintro e wx ⟨rfl, hx⟩; rw [show (byteS (rSt k b).2.1 (rSt k b).2.2).1 = (rLa k b).1 from rfl]; have HBx := Aside0.mk (HBq.out.step hx); obtain ⟨Ax, cx, hcx⟩ := HBx.out.i.rm; have hxq0 : wx.cell? ⟨q, 0, none⟩ = some (.slice Ax (rLa k b).2.1.length cx) := (blk_cell hcx.str 0).trans rfl; have hxq1 : wx.cell? ⟨q, 1, none⟩ = some (.bool (rLa k b).2.2) := (blk_cell hcx.str 1).trans rfl; have hxd0 : wx.cell? ⟨D, 0, none⟩ = some (.int .i64 (rFr b).1) := (blk_cell HBx.out.d 0).trans rfl; have hxd1 : wx.cell? ⟨D, 1, none⟩ = some (.int .i64 (rTo b).1) := (blk_cell HBx.out.d 1).trans rfl; have hxd2 : wx.cell? ⟨D, 2, none⟩ = some (.slice Av k cv) := (blk_cell HBx.out.d 2).trans rfl; have hy0 : wx.cell? ⟨w.heap.size, 0, none⟩ = some (.int .i64 0) := (blk_cell HBx.out.i.bk 0).trans rfl; have hy1 : wx.cell? ⟨w.heap.size, 1, none⟩ = some (.int .i64 0) := (blk_cell HBx.out.i.bk 1).trans rfl; have hy2 : wx.cell? ⟨w.heap.size, 2, none⟩ = some (.slice none 0 0) := (blk_cell HBx.out.i.bk 2).trans rfl; have hf0 : wx.frozen? ⟨w.heap.size, 0, none⟩ = false := blk_frozen HBx.out.i.bk 0; have hf1 : wx.frozen? ⟨w.heap.size, 1, none⟩ = false := blk_frozen HBx.out.i.bk 1; have hf2 : wx.frozen? ⟨w.heap.size, 2, none⟩ = false := blk_frozen HBx.out.i.bk 2; clear hcx hx; rw [H69.out]; rw [HBD.out] at hxq1) | (go_at_call 14; have hgc := laminaref17_Good.calls (rFr b).1 (rTo b).1 Av cv ((rSt k b).1.map toR) wx (Kd.R_reads' (Kd.S_R HBx.out.s)).2.2 (by rw [HVK.out]; exact (Kd.R_reads' (Kd.S_R HBx.out.s)).2.1) (by rw [HVK.out]; omega); rw [HVK.out, toP_toR, HGV.out] at hgc; refine hgc.mono ?_; rintro e wy ⟨rfl, hb⟩; have HBy := Aside0.mk (HBx.out.far (Only.of_below hb (fun _ => False)) (fun _ h => h.elim)); clear hgc hb; have hcy := Kd.C_string (P := Try.prog) (A := A0) (c := c0) Try.underlying25 Try.underlying5 Try.underlying9 (HR0.out.old HBy.out.i.bel).row; have hvd0 : wy.cell? ⟨D, 0, none⟩ = some (.int .i64 (rFr b).1) := (blk_cell HBy.out.d 0).trans rfl; have hvd1 : wy.cell? ⟨D, 1, none⟩ = some (.int .i64 (rTo b).1) := (blk_cell HBy.out.d 1).trans rfl; have hvd2 : wy.cell? ⟨D, 2, none⟩ = some (.slice Av k cv) := (blk_cell HBy.out.d 2).trans rfl; have hg0 : wy.cell? ⟨w.heap.size, 0, none⟩ = some (.int .i64 0) := (blk_cell HBy.out.i.bk 0).trans rfl; have hg1 : wy.cell? ⟨w.heap.size, 1, none⟩ = some (.int .i64 0) := (blk_cell HBy.out.i.bk 1).trans rfl; have hg2 : wy.cell? ⟨w.heap.size, 2, none⟩ = some (.slice none 0 0) := (blk_cell HBy.out.i.bk 2).trans rfl; have hgf0 : wy.frozen? ⟨w.heap.size, 0, none⟩ = false := blk_frozen HBy.out.i.bk 0; have hgf1 : wy.frozen? ⟨w.heap.size, 1, none⟩ = false := blk_frozen HBy.out.i.bk 1; have hgf2 : wy.frozen? ⟨w.heap.size, 2, none⟩ = false := blk_frozen HBy.out.i.bk 2))) | fail
        all_goals (go_wp2_with fail; go_meet; exact ⟨true, _, _, rfl, HBy, ⟨.inl ⟨rfl, fun h => by have := (stop_ok2 HK.out HEX.out h).1; rw [HGV.out] at this; cases this⟩⟩⟩)
      have HGV := Aside0.mk hgv
      have hrc := good_recs hgv
      have HVL := Aside0.mk (show ((rSt k b).1.map toR).length ≤ 5000 by rw [List.length_map]; omega)
      have HVD := Aside0.mk (show ∀ r ∈ (rSt k b).1.map toR, r.f3.length ≤ 1000000 from fun r hr => by
        obtain ⟨r', hr', rfl⟩ := List.mem_map.1 hr
        have := (hrc.2.2 r' hr').a3
        show r'.f3.length ≤ _
        omega)
      have hpb := putL_bytes (rFr b).1 (rTo b).1 (rSt k b).1 (fun r hr x hx => HBY.out x (rSt_mem b k r hr x hx))
      clear hgv hrc
      by_cases heq : putL (rFr b).1 (rTo b).1 (rSt k b).1 = b
      case neg =>
        have HNQ := Aside0.mk heq
        have hNS : ((strOfNums (putL (rFr b).1 (rTo b).1 (rSt k b).1)).toList == (strOfNums b).toList) = false := by
          rw [beq_eq_false_iff_ne]
          intro h
          rw [ByteArray.toList_eq, ByteArray.toList_eq] at h
          exact heq (str_inj hpb HBY.out (Go.WideShapes.bytes_inj h))
        clear heq hpb
        first | (go_region_with (first | (go_at_call 57; refine (laminaref03_Reader_Byte.calls S q _ _ _ HBq.out.i.rm (by omega)).mono ?_; rintro e wx ⟨rfl, hx⟩; rw [show (byteS (rSt k b).2.1 (rSt k b).2.2).1 = (rLa k b).1 from rfl]; have HBx := Aside0.mk (HBq.out.step hx); obtain ⟨Ax, cx, hcx⟩ := HBx.out.i.rm; have hxq0 : wx.cell? ⟨q, 0, none⟩ = some (.slice Ax (rLa k b).2.1.length cx) := (blk_cell hcx.str 0).trans rfl; have hxq1 : wx.cell? ⟨q, 1, none⟩ = some (.bool (rLa k b).2.2) := (blk_cell hcx.str 1).trans rfl; have hxd0 : wx.cell? ⟨D, 0, none⟩ = some (.int .i64 (rFr b).1) := (blk_cell HBx.out.d 0).trans rfl; have hxd1 : wx.cell? ⟨D, 1, none⟩ = some (.int .i64 (rTo b).1) := (blk_cell HBx.out.d 1).trans rfl; have hxd2 : wx.cell? ⟨D, 2, none⟩ = some (.slice Av k cv) := (blk_cell HBx.out.d 2).trans rfl; have hy0 : wx.cell? ⟨w.heap.size, 0, none⟩ = some (.int .i64 0) := (blk_cell HBx.out.i.bk 0).trans rfl; have hy1 : wx.cell? ⟨w.heap.size, 1, none⟩ = some (.int .i64 0) := (blk_cell HBx.out.i.bk 1).trans rfl; have hy2 : wx.cell? ⟨w.heap.size, 2, none⟩ = some (.slice none 0 0) := (blk_cell HBx.out.i.bk 2).trans rfl; have hf0 : wx.frozen? ⟨w.heap.size, 0, none⟩ = false := blk_frozen HBx.out.i.bk 0; have hf1 : wx.frozen? ⟨w.heap.size, 1, none⟩ = false := blk_frozen HBx.out.i.bk 1; have hf2 : wx.frozen? ⟨w.heap.size, 2, none⟩ = false := blk_frozen HBx.out.i.bk 2; clear hcx hx; rw [H69.out]; rw [HBD.out] at hxq1) | (go_at_call 14; have hgc := laminaref17_Good.calls (rFr b).1 (rTo b).1 Av cv ((rSt k b).1.map toR) wx (Kd.R_reads' (Kd.S_R HBx.out.s)).2.2 (by rw [HVK.out]; exact (Kd.R_reads' (Kd.S_R HBx.out.s)).2.1) (by rw [HVK.out]; omega); rw [HVK.out, toP_toR, HGV.out] at hgc; refine hgc.mono ?_; rintro e wy ⟨rfl, hb⟩; have HBy := Aside0.mk (HBx.out.far (Only.of_below hb (fun _ => False)) (fun _ h => h.elim)); clear hgc hb; have hcy := Kd.C_string (P := Try.prog) (A := A0) (c := c0) Try.underlying25 Try.underlying5 Try.underlying9 (HR0.out.old HBy.out.i.bel).row; have hvd0 : wy.cell? ⟨D, 0, none⟩ = some (.int .i64 (rFr b).1) := (blk_cell HBy.out.d 0).trans rfl; have hvd1 : wy.cell? ⟨D, 1, none⟩ = some (.int .i64 (rTo b).1) := (blk_cell HBy.out.d 1).trans rfl; have hvd2 : wy.cell? ⟨D, 2, none⟩ = some (.slice Av k cv) := (blk_cell HBy.out.d 2).trans rfl; have hg0 : wy.cell? ⟨w.heap.size, 0, none⟩ = some (.int .i64 0) := (blk_cell HBy.out.i.bk 0).trans rfl; have hg1 : wy.cell? ⟨w.heap.size, 1, none⟩ = some (.int .i64 0) := (blk_cell HBy.out.i.bk 1).trans rfl; have hg2 : wy.cell? ⟨w.heap.size, 2, none⟩ = some (.slice none 0 0) := (blk_cell HBy.out.i.bk 2).trans rfl; have hgf0 : wy.frozen? ⟨w.heap.size, 0, none⟩ = false := blk_frozen HBy.out.i.bk 0; have hgf1 : wy.frozen? ⟨w.heap.size, 1, none⟩ = false := blk_frozen HBy.out.i.bk 1; have hgf2 : wy.frozen? ⟨w.heap.size, 2, none⟩ = false := blk_frozen HBy.out.i.bk 2) | (go_at_call 29; have hpc := laminaref17_Put.calls (rFr b).1 (rTo b).1 Av cv ((rSt k b).1.map toR) wy (Kd.R_reads' (Kd.S_R HBy.out.s)).2.2 (by rw [HVK.out]; exact (Kd.R_reads' (Kd.S_R HBy.out.s)).2.1) HVL.out HVD.out; rw [HVK.out, toP_toR] at hpc; refine hpc.mono ?_; rintro e wz ⟨vz, rfl, hoz, hb⟩; have HBz := Aside0.mk (HBy.out.far (Only.of_below hb (fun _ => False)) (fun _ h => h.elim)); obtain ⟨Az, cz, rfl, -⟩ := Kd.R_reads hoz; have hcz := Kd.C_string (P := Try.prog) (A := Az) (c := cz) Try.underlying25 Try.underlying5 Try.underlying9 (Kd.R_reads' hoz).2.2; have hcb := Kd.C_string (P := Try.prog) (A := A0) (c := c0) Try.underlying25 Try.underlying5 Try.underlying9 (HR0.out.old HBz.out.i.bel).row; clear hpc hb hoz; have hwd0 : wz.cell? ⟨D, 0, none⟩ = some (.int .i64 (rFr b).1) := (blk_cell HBz.out.d 0).trans rfl; have hwd1 : wz.cell? ⟨D, 1, none⟩ = some (.int .i64 (rTo b).1) := (blk_cell HBz.out.d 1).trans rfl; have hwd2 : wz.cell? ⟨D, 2, none⟩ = some (.slice Av k cv) := (blk_cell HBz.out.d 2).trans rfl; have hh0 : wz.cell? ⟨w.heap.size, 0, none⟩ = some (.int .i64 0) := (blk_cell HBz.out.i.bk 0).trans rfl; have hh1 : wz.cell? ⟨w.heap.size, 1, none⟩ = some (.int .i64 0) := (blk_cell HBz.out.i.bk 1).trans rfl; have hh2 : wz.cell? ⟨w.heap.size, 2, none⟩ = some (.slice none 0 0) := (blk_cell HBz.out.i.bk 2).trans rfl; have hhf0 : wz.frozen? ⟨w.heap.size, 0, none⟩ = false := blk_frozen HBz.out.i.bk 0; have hhf1 : wz.frozen? ⟨w.heap.size, 1, none⟩ = false := blk_frozen HBz.out.i.bk 1; have hhf2 : wz.frozen? ⟨w.heap.size, 2, none⟩ = false := blk_frozen HBz.out.i.bk 2))) | fail
        all_goals (go_wp2_with fail; go_meet; exact ⟨true, _, _, rfl, HBz, ⟨.inl ⟨rfl, fun h => HNQ.out (stop_ok2 HK.out HEX.out h).2.2.2.2⟩⟩⟩)
      have HEQ := Aside0.mk heq
      clear hpb
      first | (go_region_with (first | (go_at_call 57; refine (laminaref03_Reader_Byte.calls S q _ _ _ HBq.out.i.rm (by omega)).mono ?_; rintro e wx ⟨rfl, hx⟩; rw [show (byteS (rSt k b).2.1 (rSt k b).2.2).1 = (rLa k b).1 from rfl]; have HBx := Aside0.mk (HBq.out.step hx); obtain ⟨Ax, cx, hcx⟩ := HBx.out.i.rm; have hxq0 : wx.cell? ⟨q, 0, none⟩ = some (.slice Ax (rLa k b).2.1.length cx) := (blk_cell hcx.str 0).trans rfl; have hxq1 : wx.cell? ⟨q, 1, none⟩ = some (.bool (rLa k b).2.2) := (blk_cell hcx.str 1).trans rfl; have hxd0 : wx.cell? ⟨D, 0, none⟩ = some (.int .i64 (rFr b).1) := (blk_cell HBx.out.d 0).trans rfl; have hxd1 : wx.cell? ⟨D, 1, none⟩ = some (.int .i64 (rTo b).1) := (blk_cell HBx.out.d 1).trans rfl; have hxd2 : wx.cell? ⟨D, 2, none⟩ = some (.slice Av k cv) := (blk_cell HBx.out.d 2).trans rfl; have hy0 : wx.cell? ⟨w.heap.size, 0, none⟩ = some (.int .i64 0) := (blk_cell HBx.out.i.bk 0).trans rfl; have hy1 : wx.cell? ⟨w.heap.size, 1, none⟩ = some (.int .i64 0) := (blk_cell HBx.out.i.bk 1).trans rfl; have hy2 : wx.cell? ⟨w.heap.size, 2, none⟩ = some (.slice none 0 0) := (blk_cell HBx.out.i.bk 2).trans rfl; have hf0 : wx.frozen? ⟨w.heap.size, 0, none⟩ = false := blk_frozen HBx.out.i.bk 0; have hf1 : wx.frozen? ⟨w.heap.size, 1, none⟩ = false := blk_frozen HBx.out.i.bk 1; have hf2 : wx.frozen? ⟨w.heap.size, 2, none⟩ = false := blk_frozen HBx.out.i.bk 2; clear hcx hx; rw [H69.out]; rw [HBD.out] at hxq1) | (go_at_call 14; have hgc := laminaref17_Good.calls (rFr b).1 (rTo b).1 Av cv ((rSt k b).1.map toR) wx (Kd.R_reads' (Kd.S_R HBx.out.s)).2.2 (by rw [HVK.out]; exact (Kd.R_reads' (Kd.S_R HBx.out.s)).2.1) (by rw [HVK.out]; omega); rw [HVK.out, toP_toR, HGV.out] at hgc; refine hgc.mono ?_; rintro e wy ⟨rfl, hb⟩; have HBy := Aside0.mk (HBx.out.far (Only.of_below hb (fun _ => False)) (fun _ h => h.elim)); clear hgc hb; have hcy := Kd.C_string (P := Try.prog) (A := A0) (c := c0) Try.underlying25 Try.underlying5 Try.underlying9 (HR0.out.old HBy.out.i.bel).row; have hvd0 : wy.cell? ⟨D, 0, none⟩ = some (.int .i64 (rFr b).1) := (blk_cell HBy.out.d 0).trans rfl; have hvd1 : wy.cell? ⟨D, 1, none⟩ = some (.int .i64 (rTo b).1) := (blk_cell HBy.out.d 1).trans rfl; have hvd2 : wy.cell? ⟨D, 2, none⟩ = some (.slice Av k cv) := (blk_cell HBy.out.d 2).trans rfl; have hg0 : wy.cell? ⟨w.heap.size, 0, none⟩ = some (.int .i64 0) := (blk_cell HBy.out.i.bk 0).trans rfl; have hg1 : wy.cell? ⟨w.heap.size, 1, none⟩ = some (.int .i64 0) := (blk_cell HBy.out.i.bk 1).trans rfl; have hg2 : wy.cell? ⟨w.heap.size, 2, none⟩ = some (.slice none 0 0) := (blk_cell HBy.out.i.bk 2).trans rfl; have hgf0 : wy.frozen? ⟨w.heap.size, 0, none⟩ = false := blk_frozen HBy.out.i.bk 0; have hgf1 : wy.frozen? ⟨w.heap.size, 1, none⟩ = false := blk_frozen HBy.out.i.bk 1; have hgf2 : wy.frozen? ⟨w.heap.size, 2, none⟩ = false := blk_frozen HBy.out.i.bk 2) | (go_at_call 29; have hpc := laminaref17_Put.calls (rFr b).1 (rTo b).1 Av cv ((rSt k b).1.map toR) wy (Kd.R_reads' (Kd.S_R HBy.out.s)).2.2 (by rw [HVK.out]; exact (Kd.R_reads' (Kd.S_R HBy.out.s)).2.1) HVL.out HVD.out; rw [HVK.out, toP_toR] at hpc; rw [HEQ.out] at hpc; refine hpc.mono ?_; rintro e wz ⟨vz, rfl, hoz, hb⟩; have HBz := Aside0.mk (HBy.out.far (Only.of_below hb (fun _ => False)) (fun _ h => h.elim)); obtain ⟨Az, cz, rfl, -⟩ := Kd.R_reads hoz; have hcz := Kd.C_string (P := Try.prog) (A := Az) (c := cz) Try.underlying25 Try.underlying5 Try.underlying9 (Kd.R_reads' hoz).2.2; have hcb := Kd.C_string (P := Try.prog) (A := A0) (c := c0) Try.underlying25 Try.underlying5 Try.underlying9 (HR0.out.old HBz.out.i.bel).row; clear hpc hb hoz; have hwd0 : wz.cell? ⟨D, 0, none⟩ = some (.int .i64 (rFr b).1) := (blk_cell HBz.out.d 0).trans rfl; have hwd1 : wz.cell? ⟨D, 1, none⟩ = some (.int .i64 (rTo b).1) := (blk_cell HBz.out.d 1).trans rfl; have hwd2 : wz.cell? ⟨D, 2, none⟩ = some (.slice Av k cv) := (blk_cell HBz.out.d 2).trans rfl; have hh0 : wz.cell? ⟨w.heap.size, 0, none⟩ = some (.int .i64 0) := (blk_cell HBz.out.i.bk 0).trans rfl; have hh1 : wz.cell? ⟨w.heap.size, 1, none⟩ = some (.int .i64 0) := (blk_cell HBz.out.i.bk 1).trans rfl; have hh2 : wz.cell? ⟨w.heap.size, 2, none⟩ = some (.slice none 0 0) := (blk_cell HBz.out.i.bk 2).trans rfl; have hhf0 : wz.frozen? ⟨w.heap.size, 0, none⟩ = false := blk_frozen HBz.out.i.bk 0; have hhf1 : wz.frozen? ⟨w.heap.size, 1, none⟩ = false := blk_frozen HBz.out.i.bk 1; have hhf2 : wz.frozen? ⟨w.heap.size, 2, none⟩ = false := blk_frozen HBz.out.i.bk 2))) | fail
      all_goals (go_wp2_with fail; go_meet; exact ⟨false, _, _, rfl, HBz, ⟨.inr ⟨rfl, HGV.out, HEQ.out⟩⟩⟩)
    case rest =>
      obtain ⟨bb, l', bad', rfl, HBx, HFI⟩ := hcut
      have hy0 : wc.cell? ⟨w.heap.size, 0, none⟩ = some (.int .i64 0) := (blk_cell HBx.out.i.bk 0).trans rfl
      have hy1 : wc.cell? ⟨w.heap.size, 1, none⟩ = some (.int .i64 0) := (blk_cell HBx.out.i.bk 1).trans rfl
      have hy2 : wc.cell? ⟨w.heap.size, 2, none⟩ = some (.slice none 0 0) := (blk_cell HBx.out.i.bk 2).trans rfl
      have hf0 : wc.frozen? ⟨w.heap.size, 0, none⟩ = false := blk_frozen HBx.out.i.bk 0
      have hf1 : wc.frozen? ⟨w.heap.size, 1, none⟩ = false := blk_frozen HBx.out.i.bk 1
      have hf2 : wc.frozen? ⟨w.heap.size, 2, none⟩ = false := blk_frozen HBx.out.i.bk 2
      have hz0 : wc.cell? ⟨D, 0, none⟩ = some (.int .i64 (rFr b).1) := (blk_cell HBx.out.d 0).trans rfl
      have hz1 : wc.cell? ⟨D, 1, none⟩ = some (.int .i64 (rTo b).1) := (blk_cell HBx.out.d 1).trans rfl
      have hz2 : wc.cell? ⟨D, 2, none⟩ = some (.slice Av k cv) := (blk_cell HBx.out.d 2).trans rfl
      rcases HFI.out with ⟨rfl, hno⟩ | ⟨rfl, hg, hp⟩
      · go_wp2
        refine bodyPost_ret (results_ct rfl _ _ w.heap.size 24 #[.int .i64 0, .int .i64 0, .slice none 0 0] (0, 0) _ rfl (blk_put (blk_put (blk_put HBx.out.i.bk 0 _ rfl) 1 _ rfl) 2 _ rfl) Try.underlying24 rfl (by kernel_rfl)) rfl ?_
        unfold RTook
        exact ⟨0, 0, [], .slice none 0 0, false, by simp, .inr ⟨rfl, rfl, rfl, rfl, rfl, hno⟩, below_set (below_set (below_set HBx.out.i.bel (Nat.le_refl _)) (Nat.le_refl _)) (Nat.le_refl _)⟩
      · have HGG := Aside0.mk hg
        have HPP := Aside0.mk hp
        clear hg hp
        go_wp2
        refine bodyPost_ret (results_ct rfl _ _ w.heap.size 24 #[.int .i64 (rFr b).1, .int .i64 (rTo b).1, .slice Av k cv] (0, 0) _ rfl (blk_put (blk_put (blk_put HBx.out.i.bk 0 _ rfl) 1 _ rfl) 2 _ rfl) Try.underlying24 rfl (by kernel_rfl)) rfl ?_
        unfold RTook
        refine ⟨(rFr b).1, (rTo b).1, (rSt k b).1, .slice Av k cv, true, by simp, .inl ⟨rfl, HGG.out, HPP.out, ?_⟩, below_set (below_set (below_set HBx.out.i.bel (Nat.le_refl _)) (Nat.le_refl _)) (Nat.le_refl _)⟩
        have hqw := HBx.out.i.qw
        have h1 : ∀ i, w9.heap.size ≤ i → i ≠ w.heap.size := fun i hi => by omega
        exact Kd.S_mono (Kd.S_lower (Kd.S_far (Kd.S_far (Kd.S_far (Kd.S_mono HBx.out.s (ok' := fun i => w9.heap.size ≤ i) (fun i hi => hi.1)) h1 _) h1 _) h1 _) (by omega)) (fun _ _ => trivial)

end Go.Proofs.Ytdehifinipmmcaa.Hp
