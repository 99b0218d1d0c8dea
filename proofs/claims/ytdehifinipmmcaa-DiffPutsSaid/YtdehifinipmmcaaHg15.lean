/- Contracts of functions of the given program, and what they lean on: written by this session's own program, out of hand texts laid into the kit's printer. -/
import Derived.Test.YtdehifinipmmcaaHp0
import Derived.Test.YtdehifinipmmcaaHg1
import Derived.Test.YtdehifinipmmcaaHg3
import Derived.Test.YtdehifinipmmcaaHg4
import Derived.Test.YtdehifinipmmcaaHg5
import Derived.Test.YtdehifinipmmcaaHg6
import Derived.Test.YtdehifinipmmcaaHg7
import Derived.Test.YtdehifinipmmcaaHg8
import Derived.Test.YtdehifinipmmcaaHg11
import Derived.Test.YtdehifinipmmcaaHg13
namespace Go.Proofs.Ytdehifinipmmcaa.Hp
open Go.RowKit Go.Proofs.YtdehifinipmmcaaW.PrintWords Go.Proofs.YtdehifinipmmcaaW.PrintLast Go.Proofs.YtdehifinipmmcaaW.PrintMore
attribute [local go_sem] max2_int min2_int max_two min_two max_three min_three max_four min_four   -- for this text's walks alone
set_option linter.unusedVariables false
set_option linter.unusedSimpArgs false

/-! ### diff_Take: function 28 -/
theorem equal_f2 (a b : List Int) (hb : b.length ≤ 1000000) (k : Nat) (hk : b.length < k) : slices_Equal_byte_byte.f k a b = some (decide (a = b)) := by
  unfold slices_Equal_byte_byte.f
  by_cases h : (a.length : Int) = b.length
  · rw [if_pos h, show (0 : Int) = ((0 : Nat) : Int) from rfl, equal_go a b (by omega) (by omega) a.length 0 k (by omega) (by omega)]
    simp
  · rw [if_neg h, decide_eq_false]
    rintro rfl
    exact h rfl
def lenAt (w : World) (p : Nat) : Nat := match w.cell? ⟨p, 0, none⟩ with
  | some (.slice _ n _) => n
  | _ => 0
theorem lenAt_of {w : World} {S : Nat → Prop} {p : Nat} {l : List Int} {bad : Bool} (h : Rd w S (.pointer (some ⟨p, 0, none⟩)) l bad) : lenAt w p = l.length := by
  rcases h with ⟨h, _⟩ | ⟨p', A, c, h, x, _⟩
  · cases h
  · cases h
    unfold lenAt
    rw [cell_of x.str]
    rfl
/-- What the rows of cells say of the records: their bytes lie in blocks of S. -/
def RowsOk (w : World) (S : Nat → Prop) (rows : List (List Value)) (rs : List S61) : Prop :=
  rows.length = rs.length ∧ ∀ (j : Nat) (r : S61), rs[j]? = some r → ∃ A c, rows[j]? = some [.int .i64 r.f0, .int .i64 r.f1, .bool r.f2, .slice A r.f3.length c] ∧ r.f3.length ≤ c ∧ Rb w S A r.f3 ∧ Nf w A r.f3
theorem RowsOk.only {w w' : World} {S T : Nat → Prop} {rows : List (List Value)} {rs : List S61} (h : RowsOk w S rows rs) (o : Only w w' T) (hd : ∀ i, S i → ¬ T i) : RowsOk w' S rows rs :=
  ⟨h.1, fun j r hj => by
    obtain ⟨A, c, h1, h2, h3, h4⟩ := h.2 j r hj
    exact ⟨A, c, h1, h2, h3.only o hd, h4.only h3 o hd⟩⟩
theorem RowsOk.snoc {w : World} {S : Nat → Prop} {rows : List (List Value)} {rs : List S61} (h : RowsOk w S rows rs) (r : S61) {A : Option Addr} {c : Nat} (hc : r.f3.length ≤ c) (hr : Rb w S A r.f3) (hn : Nf w A r.f3) : RowsOk w S (rows ++ [[.int .i64 r.f0, .int .i64 r.f1, .bool r.f2, .slice A r.f3.length c]]) (rs ++ [r]) := by
  refine ⟨by simp [h.1], fun j x hj => ?_⟩
  rcases Nat.lt_or_ge j rs.length with hl | hl
  · rw [List.getElem?_append_left hl] at hj
    obtain ⟨A', c', h1, h2⟩ := h.2 j x hj
    exact ⟨A', c', by rw [List.getElem?_append_left (by rw [h.1]; exact hl)]; exact h1, h2⟩
  · rw [List.getElem?_append_right hl] at hj
    have hz : j - rs.length = 0 := by
      rcases Nat.eq_zero_or_pos (j - rs.length) with h | h
      · exact h
      · rw [List.getElem?_eq_none (by simp; omega)] at hj; cases hj
    rw [hz] at hj
    cases hj
    exact ⟨A, c, by rw [List.getElem?_append_right (by rw [h.1]; exact hl), h.1, hz]; rfl, hc, hr, hn⟩
theorem C_of_rows {w : World} {S : Nat → Prop} {A : Option Addr} {n : Nat} {rows : List (List Value)} {rs : List S61} (h : (Kd.raw 4).C w A n rows) (ok : RowsOk w S rows rs) : Kd.C k61 w A rs.length rs := by
  have hn := h.1
  refine ⟨rfl, by rw [← ok.1]; have := h.2.1; omega, fun hp => ?_⟩
  have hok := ok.1
  obtain ⟨ad, e, hc⟩ := h.2.2 (by omega)
  refine ⟨ad, e, fun j r hj => ?_⟩
  obtain ⟨A3, c3, hrow, h2, h3, h4⟩ := ok.2 j r hj
  obtain ⟨cs, hl, hk, hcell⟩ := hc j _ hrow
  exact ⟨cs, hl, by rw [hk.1]; exact k61_mk w r h2 h3.row, hcell⟩
structure TkI (w wN : World) (S : Nat → Prop) (p : Nat) (l : List Int) (bad : Bool) : Prop where
  rd : Rd wN S (.pointer (some ⟨p, 0, none⟩)) l bad
  bk : wN.heap[w.heap.size]? = some (.cells #[.int .i64 0, .int .i64 0, .slice none 0 0] 35 (0, 0))
  bel : Below w.heap.size w wN
  pw : w.heap.size < p
  sw : ∀ i, S i → w.heap.size < i ∧ i ≠ p
theorem Pt_eq {p i : Nat} (h : Pt (.pointer (some ⟨p, 0, none⟩)) i) : i = p := by unfold Pt at h; cases h; rfl
theorem TkI.step {w wN wM : World} {S : Nat → Prop} {p : Nat} {l l' : List Int} {bad bad' : Bool} (x : TkI w wN S p l bad) (y : RdTo wN wM S (.pointer (some ⟨p, 0, none⟩)) l' bad') : TkI w wM S p l' bad' :=
  ⟨y.rd, y.only.same_block x.bk (fun e => by have := Pt_eq e; have := x.pw; omega), x.bel.trans (y.only.below (B := w.heap.size) (fun i hi => by have := Pt_eq hi; have := x.pw; omega) x.bel.size), x.pw, x.sw⟩
theorem TkI.below {w wN wM : World} {S : Nat → Prop} {p : Nat} {l : List Int} {bad : Bool} (x : TkI w wN S p l bad) (k : Below wN.heap.size wN wM) : TkI w wM S p l bad := ⟨x.rd.below k, blk_below x.bk k, below_step x.bel k, x.pw, x.sw⟩
theorem TkI.only {w wN wM : World} {S T : Nat → Prop} {p : Nat} {l : List Int} {bad : Bool} (x : TkI w wN S p l bad) (k : Only wN wM T) (h1 : ∀ i, S i → ¬ T i) (h2 : ¬ T p) (h3 : ∀ i, T i → w.heap.size < i) : TkI w wM S p l bad :=
  ⟨x.rd.only k h1 (fun i hi => by rw [Pt_eq hi]; exact h2), k.same_block x.bk (fun h => by have := h3 _ h; omega), x.bel.trans (k.below (B := w.heap.size) (fun i hi => Nat.le_of_lt (h3 i hi)) x.bel.size), x.pw, x.sw⟩
theorem bytesS_mem (l : List Int) (bad : Bool) : ∀ x ∈ (bytesS l bad).1, x ∈ l := by
  have hn : ∀ x ∈ (numS l bad).2.1, x ∈ l := by
    unfold numS
    split
    · rename_i b r h2
      obtain ⟨-, -, -, -, rfl⟩ := tkS_some h2
      exact fun x hx => List.mem_of_mem_drop hx
    · intro x hx; cases hx
  unfold bytesS
  split
  · rename_i b r h2
    obtain ⟨-, -, -, rfl, -⟩ := tkS_some h2
    exact fun x hx => hn x (List.mem_of_mem_take hx)
  · intro x hx; cases hx
theorem named_iff (b : List Int) (hb : ∀ x ∈ b, 0 ≤ x ∧ x < 256) : ((strOfNums (bytesS b false).1).toList == [108, 97, 109, 105, 110, 97, 32, 100, 105, 102, 102, 32, 49]) = decide ((rTt b).1 = ttL) := by
  have ht : (strOfNums ttL).toList = [108, 97, 109, 105, 110, 97, 32, 100, 105, 102, 102, 32, 49] := by rw [ByteArray.toList_eq, strOfNums_data]; rfl
  rw [← ht]
  by_cases h : (rTt b).1 = ttL
  · rw [decide_eq_true h, show (bytesS b false).1 = ttL from h]
    simp
  · rw [decide_eq_false h, beq_eq_false_iff_ne]
    intro h2
    rw [ByteArray.toList_eq, ByteArray.toList_eq] at h2
    exact h (str_inj (fun x hx => hb x (bytesS_mem b false x hx)) (by decide) (Go.WideShapes.bytes_inj h2))
theorem Rd.blk {w w' : World} {S : Nat → Prop} {h : Value} {l : List Int} {bad : Bool} {B p : Nat} (hp : h = .pointer (some ⟨p, 0, none⟩)) (x : RdTo w w' S h l bad) (hB : B ≤ p) (hBw : B ≤ w.heap.size) : Below B w w' := x.only.below (fun i hi => by unfold Pt at hi; rw [hp] at hi; cases hi; exact hB) hBw
/-- What a taking leaves: a diff, or nothing. -/
structure TakeYes (w w' : World) (b : List Int) (F T : Int) (l : List S61) (v : Value) : Prop where
  good : goodD F T l = true
  put : putL F T l = b
  rows : ∃ (rows : List (List Value)) (S : Nat → Prop), (Kd.raw 4).R 61 w' w.heap.size (fun k => w.heap.size ≤ k ∧ ¬ S k) v rows ∧ RowsOk w' S rows l ∧ ∀ i, S i → w.heap.size ≤ i
def TakeP (w w' : World) (b : List Int) (F T : Int) (l : List S61) (v : Value) (er : Option Int) : Prop :=
  (er = none ∧ TakeYes w w' b F T l v) ∨ (er = some 2 ∧ F = 0 ∧ T = 0 ∧ l = [] ∧ v = .slice none 0 0 ∧ ¬ OkD b)
set_option maxRecDepth 100000 in
set_option maxHeartbeats 8000000 in
theorem diff_Take.calls (A0 : Option Addr) (c0 : Nat) (b : List Int) (w : World) (hr0 : Kd.C (Kd.int .u8) w A0 b.length b) (hc0 : b.length ≤ c0) (hby : ∀ x ∈ b, 0 ≤ x ∧ x < 256) (hl0 : b.length ≤ 1000000) :
    Calls Try.prog 28 #[.slice A0 b.length c0] w fun e w' => ∃ (F T : Int) (l : List S61) (v : Value) (er : Option Int), e = .returned (.tuple #[.agg #[.int .i64 F, .int .i64 T, v], errW er]) ∧ TakeP w w' b F T l v er ∧ Below w.heap.size w w' := by
  have hu27 := Try.underlying30
  have hu33 := Try.underlying39
  have HR0 := Aside0.mk (Rk.of_C hr0)
  have HBY := Aside0.mk hby
  clear hr0 hby
  go_enter Try.func28, Try.ntmps28
  go_wp2_with fail
  have BK1 := Aside0.mk (blk_new w (.cells #[.int .i64 0, .int .i64 0, .slice none 0 0] 35))
  have HB1 := Aside0.mk (below_alloc (Below.refl w.heap.size w) (.cells #[.int .i64 0, .int .i64 0, .slice none 0 0] 35))
  have hw1 : w.heap.size < (w.alloc (.cells #[.int .i64 0, .int .i64 0, .slice none 0 0] 35)).heap.size := by simp
  generalize hW : (w.alloc (.cells #[.int .i64 0, .int .i64 0, .slice none 0 0] 35)) = w1 at *
  clear hW
  refine (wire_NewReader.calls A0 c0 b _ (HR0.out.old HB1.out).row HBY.out (by omega)).mono ?_
  rintro e w2 ⟨p, rfl, hx⟩
  have hp := hx.pt p rfl
  obtain ⟨S, hrd, hsw⟩ : ∃ S : Nat → Prop, Rd w2 S (.pointer (some ⟨p, 0, none⟩)) b false ∧ ∀ i, S i → w1.heap.size ≤ i ∧ i < w2.heap.size ∧ i ≠ p := ⟨_, hx.rd, fun i hi => ⟨hi.1, hi.2.1, fun e => hi.2.2 (by subst e; rfl)⟩⟩
  have HI2 := Aside0.mk (TkI.mk hrd (blk_below BK1.out hx.below) (HB1.out.trans (hx.below.mono (Nat.le_of_lt hw1))) (by omega) (fun i hi => ⟨by have := (hsw i hi).1; omega, (hsw i hi).2.2⟩))
  have HSL := Aside0.mk (fun i (hi : S i) => (hsw i hi).2.1)
  have hps := hp.2
  have hNB := named_iff b HBY.out
  clear hx BK1 HB1 hrd hsw hp hw1
  go_wp2_with fail
  refine (wire_Reader_Text.calls S _ b false _ HI2.out.rd).mono ?_
  rintro e w3 ⟨rfl, hx⟩
  have HI3 := Aside0.mk (HI2.out.step hx)
  have h23 := hx.only.size
  clear hx HI2
  go_wp2_with fail
  refine (wire_Reader_Num.calls S _ _ _ _ HI3.out.rd).mono ?_
  rintro e w4 ⟨rfl, hx⟩
  have HI4 := Aside0.mk (HI3.out.step hx)
  have h34 := hx.only.size
  clear hx HI3
  go_wp2_with fail
  refine (wire_Reader_Num.calls S _ _ _ _ HI4.out.rd).mono ?_
  rintro e w5 ⟨rfl, hx⟩
  have HI5 := Aside0.mk (HI4.out.step hx)
  have h45 := hx.only.size
  clear hx HI4
  change Aside0 (TkI w w5 S p (rTo b).2.1 (rTo b).2.2) at HI5
  rw [show (numS (bytesS b false).2.1 (bytesS b false).2.2).1 = (rFr b).1 from rfl, show (numS (numS (bytesS b false).2.1 (bytesS b false).2.2).2.1 (numS (bytesS b false).2.1 (bytesS b false).2.2).2.2).1 = (rTo b).1 from rfl]
  clear hNB
  generalize hnb : decide ((rTt b).1 = ttL) = nb at *
  have HNB := Aside0.mk hnb
  clear hnb
  go_wp2_with fail
  have HD5 := Aside0.mk (blk_new w5 (.cells #[.int .i64 (rFr b).1, .int .i64 (rTo b).1, .slice none 0 0] 35))
  have HI5 := Aside0.mk (HI5.out.below (below_alloc (Below.refl w5.heap.size w5) (.cells #[.int .i64 (rFr b).1, .int .i64 (rTo b).1, .slice none 0 0] 35)))
  have hD5 : w5.heap.size < (w5.alloc (.cells #[.int .i64 (rFr b).1, .int .i64 (rTo b).1, .slice none 0 0] 35)).heap.size := by simp
  have hpD : p < w5.heap.size := by omega
  have HSD := Aside0.mk (fun i (hi : S i) => (Nat.lt_of_lt_of_le (HSL.out i hi) (by omega) : i < w5.heap.size))
  generalize hW : (w5.alloc (.cells #[.int .i64 (rFr b).1, .int .i64 (rTo b).1, .slice none 0 0] 35)) = w6 at *
  clear hW
  generalize w5.heap.size = D at *
  refine (wire_Reader_Num.calls S _ _ _ _ HI5.out.rd).mono ?_
  rintro e w7 ⟨rfl, hx⟩
  have HI7 := Aside0.mk (HI5.out.step hx)
  have HD7 := Aside0.mk (hx.only.same_block HD5.out (fun e => by have := Pt_eq e; omega))
  have hD7 := Nat.lt_of_lt_of_le hD5 hx.only.size
  clear hx HI5 HD5 hD5 HSL h23 h34 h45 hps
  change Aside0 (TkI w w7 S p (rSt 0 b).2.1 (rSt 0 b).2.2) at HI7
  rw [show (numS (rTo b).2.1 (rTo b).2.2).1 = (rNn b).1 from rfl]
  go_wp2
  go_loopw [] (fun wr => ∃ (k : Nat) (v : Value) (rows : List (List Value)), Aside0 (k = 0 ∨ (k : Int) ≤ (rNn b).1) ∧ Aside0 (TkI w wr S p (rSt k b).2.1 (rSt k b).2.2) ∧ Aside0 (wr.heap[D]? = some (.cells #[.int .i64 (rFr b).1, .int .i64 (rTo b).1, v] 35 (0, 0))) ∧ Aside0 ((Kd.raw 4).R 61 wr w7.heap.size (fun k => w7.heap.size ≤ k) v rows) ∧ Aside0 (RowsOk wr S rows (rSt k b).1) ∧ Aside0 (w7.heap.size ≤ wr.heap.size) ∧ Aside0 (k + (rSt k b).2.1.length ≤ b.length)) (fun wr => lenAt wr p)
  case atStart => exact ⟨0, _, [], ⟨.inl rfl⟩, HI7, HD7, ⟨Kd.R_nil _ _ _ _ _⟩, ⟨⟨rfl, fun j r hj => by cases hj⟩⟩, ⟨Nat.le_refl _⟩, ⟨by have := numS_le (rTo b).2.1 (rTo b).2.2; have := numS_le (rFr b).2.1 (rFr b).2.2; have := numS_le (rTt b).2.1 (rTt b).2.2; have := (bytesS_le b false).1; show 0 + (numS (rTo b).2.1 (rTo b).2.2).2.1.length ≤ _; unfold rTo rFr rTt at *; omega⟩⟩
  case round =>
    clear HI7 HD7
    obtain ⟨k, v, rows, HK, HI, HD, HRW, HOK, HSZ, HLN⟩ := hrel
    obtain ⟨Av, cv, rfl, -⟩ := Kd.R_reads HRW.out
    have hrl : rows.length = k := by rw [HOK.out.1]; exact stR_len _ _ _
    rw [hrl] at HRW HD
    have HRL := Aside0.mk hrl
    clear hrl
    have hz2 : wr.cell? ⟨D, 2, none⟩ = some (.slice Av k cv) := (blk_cell HD.out 2).trans rfl
    have hpw := HI.out.pw
    have hsz := HSZ.out
    by_cases hgo : (k : Int) < (rNn b).1 ∧ 0 < (rSt k b).2.1.length
    · have HGO := Aside0.mk hgo
      obtain ⟨hkn, hl⟩ := hgo
      have HME := Aside0.mk (lenAt_of HI.out.rd)
      have HLT := Aside0.mk (rdRec_lt (rSt k b).2.1 (rSt k b).2.2 hl)
      have HSS := Aside0.mk (show rSt (k + 1) b = ((rSt k b).1 ++ [(rdRec (rSt k b).2.1 (rSt k b).2.2).1], (rdRec (rSt k b).2.1 (rSt k b).2.2).2.1, (rdRec (rSt k b).2.1 (rSt k b).2.2).2.2) from rfl)
      go_wp2_with fail
      refine (wire_Reader_Left.calls S _ _ _ _ HI.out.rd).mono ?_
      rintro e w8 ⟨rfl, rfl⟩
      go_wp2_with fail
      refine (wire_Reader_Num.calls S _ _ _ _ HI.out.rd).mono ?_
      rintro e w8 ⟨rfl, hx1⟩
      have HX1 := Aside0.mk hx1
      clear hx1
      go_wp2_with fail
      refine (wire_Reader_Num.calls S _ _ _ _ HX1.out.rd).mono ?_
      rintro e w9 ⟨rfl, hx2⟩
      have HX2 := Aside0.mk (HX1.out.then_ hx2)
      clear hx2 HX1
      go_wp2_with fail
      refine (wire_Reader_Flag.calls S _ _ _ _ HX2.out.rd).mono ?_
      rintro e w10 ⟨rfl, hx3⟩
      have hx := HX2.out.then_ hx3
      have HI10 := Aside0.mk (HI.out.step hx)
      have HD10 := Aside0.mk (hx.only.same_block HD.out (fun e => by have := Pt_eq e; omega))
      have HRW10 := Aside0.mk (R_only HRW.out hx.only (fun i hi e => by have := Pt_eq e; omega))
      have HOK10 := Aside0.mk (HOK.out.only hx.only (fun i hi e => by have := Pt_eq e; have := (HI.out.sw i hi).2; omega))
      have hs10 : w7.heap.size ≤ w10.heap.size := Nat.le_trans hsz hx.only.size
      have hre : rdRec (rSt k b).2.1 (rSt k b).2.2 = (if (flagS (numS (numS (rSt k b).2.1 (rSt k b).2.2).2.1 (numS (rSt k b).2.1 (rSt k b).2.2).2.2).2.1 (numS (numS (rSt k b).2.1 (rSt k b).2.2).2.1 (numS (rSt k b).2.1 (rSt k b).2.2).2.2).2.2).1 = true then _ else _) := rfl
      clear hx hx3 HX2 HI HD HRW HOK hz2 hsz hl HSZ
      generalize numS (rSt k b).2.1 (rSt k b).2.2 = q1 at *
      generalize numS q1.2.1 q1.2.2 = q2 at *
      generalize flagS q2.2.1 q2.2.2 = q3 at *
      obtain ⟨z, l3, b3⟩ := q3
      simp only at hre HI10
      have HRLN := Aside0.mk HRL.out
      have HLEN := Aside0.mk (show (rows.length + 1) * 48 ≤ 140737488355328 by rw [HRL.out]; have := HLN.out; omega)
      have HOB := Aside0.mk (fun i (hi : (Value.slice Av k cv).ownBlock = some i) => (Kd.R_base HRW10.out i hi : w7.heap.size ≤ i))
      have hz2 : w10.cell? ⟨D, 2, none⟩ = some (.slice Av k cv) := (blk_cell HD10.out 2).trans rfl
      have hz2a : ∀ ob, (w10.alloc ob).cell? ⟨D, 2, none⟩ = some (.slice Av k cv) := fun ob => Lib.cell?_alloc_some ob hz2
      cases z
      · rw [if_neg (by simp)] at hre
        have HRE := Aside0.mk hre
        clear hre hz2 hz2a
        go_wp2_with fail
        have hKX := blk_new w10 (.cells #[.int .i64 q1.1, .int .i64 q2.1, .bool false, .slice none 0 0] 61)
        have HDd := Aside0.mk (blk_alloc HD10.out (.cells #[.int .i64 q1.1, .int .i64 q2.1, .bool false, .slice none 0 0] 61))
        have HId := Aside0.mk (HI10.out.below (below_alloc (Below.refl w10.heap.size w10) (.cells #[.int .i64 q1.1, .int .i64 q2.1, .bool false, .slice none 0 0] 61)))
        have HRWX := Aside0.mk (Kd.R_alloc (Kd.R_mono (Kd.R_bound HRW10.out) (ok' := fun i => w7.heap.size ≤ i ∧ i < w10.heap.size) (fun i hi => ⟨hi.1, hi.2.2.1⟩)) (.cells #[.int .i64 q1.1, .int .i64 q2.1, .bool false, .slice none 0 0] 61))
        have HOKd := Aside0.mk (HOK10.out.only ((Only.refl w10 (fun _ => False)).alloc (.cells #[.int .i64 q1.1, .int .i64 q2.1, .bool false, .slice none 0 0] 61)) (fun _ _ h => h))
        have hszd : w10.heap.size < (w10.alloc (.cells #[.int .i64 q1.1, .int .i64 q2.1, .bool false, .slice none 0 0] 61)).heap.size := by simp
        generalize hW : w10.alloc (.cells #[.int .i64 q1.1, .int .i64 q2.1, .bool false, .slice none 0 0] 61) = wd at *
        clear hW HI10 HD10 HRW10 HOK10
        generalize w10.heap.size = X at *
        refine (wire_Reader_Bytes.calls S _ _ _ _ HId.out.rd).mono ?_
        rintro e w11 ⟨Ab, cb, rfl, hcb, hy⟩
        have HCB := Aside0.mk hcb
        have hy1 := hy.row
        have hy2 := hy.nf
        have HI11 := Aside0.mk (HId.out.step hy.rdto)
        have hyo := hy.rdto.only
        generalize hdd : (bytesS l3 b3).1 = d at *
        clear hdd
        have HYR := Aside0.mk hy1
        have HYN := Aside0.mk hy2
        have hpX : p < X := by omega
        have HKX := Aside0.mk (hyo.same_block hKX (fun e => by have := Pt_eq e; omega))
        have HD11 := Aside0.mk (hyo.same_block HDd.out (fun e => by have := Pt_eq e; omega))
        have HRWX := Aside0.mk (R_only HRWX.out hyo (fun i hi e => by have := Pt_eq e; omega))
        have HOK11 := Aside0.mk (HOKd.out.only hyo (fun i hi e => by have := Pt_eq e; have := (HId.out.sw i hi).2; omega))
        have hs11 : wd.heap.size ≤ w11.heap.size := hyo.size
        clear hy hy1 hy2 hyo hcb hKX HDd HId HOKd
        have hm2 : w11.cell? ⟨D, 2, none⟩ = some (.slice Av k cv) := (blk_cell HD11.out 2).trans rfl
        have hn0 : w11.cell? ⟨X, 0, none⟩ = some (.int .i64 q1.1) := (blk_cell HKX.out 0).trans rfl
        have hn1 : w11.cell? ⟨X, 1, none⟩ = some (.int .i64 q2.1) := (blk_cell HKX.out 1).trans rfl
        have hn2 : w11.cell? ⟨X, 2, none⟩ = some (.bool false) := (blk_cell HKX.out 2).trans rfl
        have hn3 : w11.cell? ⟨X, 3, none⟩ = some (.slice none 0 0) := (blk_cell HKX.out 3).trans rfl
        have hnf3 : w11.frozen? ⟨X, 3, none⟩ = false := blk_frozen HKX.out 3
        have HFR := Aside0.mk (show w7.heap.size ≤ (w11.setCell ⟨X, 3, none⟩ (.slice Ab d.length cb)).heap.size by simp [World.setCell]; omega)
        have hDX : D < X := by omega
        have HXX := Aside0.mk (show w7.heap.size ≤ X by omega)
        have hm2s : (w11.setCell ⟨X, 3, none⟩ (.slice Ab d.length cb)).cell? ⟨D, 2, none⟩ = some (.slice Av k cv) := (blk_cell (blk_far HD11.out (p := ⟨X, 3, none⟩) (Nat.ne_of_lt hDX) (.slice Ab d.length cb)) 2).trans rfl
        have HNX := Aside0.mk (show ∀ i, w7.heap.size ≤ i ∧ i < X → i ≠ X from fun i hi => Nat.ne_of_lt hi.2)
        go_wp2_with (((with_reducible refine gate_builtin (b := .append) (xs := #[.tmp 48, .tmp 50]) rfl ?_); at_builtin; go_must (refine Kd.R_append (Kd.raw 4) (w0 := w11.setCell ⟨X, 3, none⟩ (.slice Ab d.length cb)) w7.heap.size rfl (.tmp 48) (.tmp 50) 33 61 (.agg #[.int .i64 0, .int .i64 0, .bool false, .slice none 0 0]) 48 rfl Try.underlying33 info61 rfl (by decide) (by omega) (.slice Av k cv) rows [.int .i64 q1.1, .int .i64 q2.1, .bool false, .slice Ab d.length cb] [.int .i64 q1.1, .int .i64 q2.1, .bool false, .slice Ab d.length cb] (fun k => w7.heap.size ≤ k) (fun _ => False) rfl (by rw [sz_set]; rfl) ⟨rfl, rfl, k61.K_one (k61_mk w11 (⟨q1.1, q2.1, false, d⟩ : S61) HCB.out HYR.out.row)⟩ (fun _ h => h.elim) (fun _ h => Nat.le_trans HFR.out h) (Kd.R_mono (Kd.R_far (p := ⟨X, 3, none⟩) (Kd.R_mono HRWX.out (fun i hi => hi)) (fun i hi => Nat.ne_of_lt hi.2) _) (fun i hi => hi.1)) (Below.refl _ _) HFR.out HLEN.out ?_); intro v1 w12 hr hb hg hat; clear hb hat; obtain ⟨A12, c12, rfl, -⟩ := Kd.R_reads hr; have hbD := blk_grown (blk_far HD11.out (p := ⟨X, 3, none⟩) (Nat.ne_of_lt hDX) (.slice Ab d.length cb)) hg (fun e => by have := HOB.out _ e.symm; omega); have hv2 : w12.cell? ⟨D, 2, none⟩ = some (.slice Av k cv) := (blk_cell hbD 2).trans rfl; have hvf : w12.frozen? ⟨D, 2, none⟩ = false := blk_frozen hbD 2; have HBD := Aside0.mk hbD; have HR12 := Aside0.mk hr; have HG12 := Aside0.mk hg; clear hr hg hbD))
        all_goals (
          have o3 := (((Only.refl w11 (fun i => i = D ∨ w7.heap.size ≤ i)).setCell (p := ⟨X, 3, none⟩) (.inl (.inr HXX.out)) (.slice Ab d.length cb)).same (Only.of_grown HG12.out (S := fun i => i = D ∨ w7.heap.size ≤ i) (fun i hi => .inr (HOB.out i hi)))).setCell (p := ⟨D, 2, none⟩) (Or.inl (Or.inl (Eq.refl D))) (.slice A12 (rows ++ [([.int .i64 q1.1, .int .i64 q2.1, .bool false, .slice Ab d.length cb] : List Value)]).length c12)
          have hST : ∀ i, S i → ¬ (i = D ∨ w7.heap.size ≤ i) := fun i hi h => by have := HSD.out i hi; omega
          have hIE := HI11.out.only o3 hST (by omega) (fun i hi => by omega)
          have e1 : (rSt (k + 1) b).2 = ((bytesS l3 b3).2.1, (bytesS l3 b3).2.2) := by rw [HSS.out, HRE.out]
          have e2 : (rSt (k + 1) b).1 = (rSt k b).1 ++ [(⟨q1.1, q2.1, false, d⟩ : S61)] := by rw [HSS.out, HRE.out]
          have hme := lenAt_of hIE.rd
          have hLT := HLT.out
          rw [HRE.out] at hLT
          dsimp only at hLT
          simp only [List.length_append, List.length_singleton] at o3 hIE hme ⊢
          rw [HRLN.out] at o3 hIE hme ⊢
          have hr12 := HR12.out
          simp only [List.length_append, List.length_singleton] at hr12
          rw [HRLN.out] at hr12
          refine ⟨⟨k + 1, _, rows ++ [([.int .i64 q1.1, .int .i64 q2.1, .bool false, .slice Ab d.length cb] : List Value)], ⟨.inr (by have := HGO.out.1; omega)⟩, ⟨by rw [e1]; exact hIE⟩, ⟨blk_put HBD.out 2 _ rfl⟩, ⟨Kd.R_far (p := ⟨D, 2, none⟩) hr12 (fun i hi => by show i ≠ D; omega) _⟩, ⟨by rw [e2]; exact (HOK11.out.only o3 hST).snoc (⟨q1.1, q2.1, false, d⟩ : S61) HCB.out (HYR.out.only o3 hST) (HYN.out.only HYR.out o3 hST)⟩, ⟨Nat.le_trans HFR.out (Nat.le_trans HG12.out.size (by simp [World.setCell]))⟩, ⟨by rw [e1]; have := HLN.out; simp only; omega⟩⟩, ?_⟩
          rw [hme, HME.out]
          exact hLT
)
      · rw [if_pos rfl] at hre
        have HRE := Aside0.mk hre
        clear hre
        have HFR := Aside0.mk (show w7.heap.size ≤ (w10.alloc (.cells #[.int .i64 q1.1, .int .i64 q2.1, .bool true, .slice none 0 0] 61)).heap.size by simp; omega)
        go_wp2_with (((with_reducible refine gate_builtin (b := .append) (xs := #[.tmp 48, .tmp 50]) rfl ?_); at_builtin; go_must (refine Kd.R_append (Kd.raw 4) (w0 := w10.alloc (.cells #[.int .i64 q1.1, .int .i64 q2.1, .bool true, .slice none 0 0] 61)) w7.heap.size rfl (.tmp 48) (.tmp 50) 33 61 (.agg #[.int .i64 0, .int .i64 0, .bool false, .slice none 0 0]) 48 rfl Try.underlying33 info61 rfl (by decide) (by omega) (.slice Av k cv) rows [.int .i64 q1.1, .int .i64 q2.1, .bool true, .slice none 0 0] [.int .i64 q1.1, .int .i64 q2.1, .bool true, .slice none 0 0] (fun k => w7.heap.size ≤ k) (fun _ => False) rfl (by rw [show (w10.alloc (.cells #[.int .i64 q1.1, .int .i64 q2.1, .bool true, .slice none 0 0] 61)).heap.size = w10.heap.size + 1 by simp]; rfl) ⟨rfl, rfl, k61.K_one (k61_mk w10 (⟨q1.1, q2.1, true, []⟩ : S61) (A3 := none) (c3 := 0) (Nat.le_refl _) ⟨rfl, Nat.zero_le _, fun h => absurd h (Nat.lt_irrefl 0)⟩)⟩ (fun _ h => h.elim) (fun _ h => Nat.le_trans HFR.out h) (Kd.R_alloc HRW10.out (.cells #[.int .i64 q1.1, .int .i64 q2.1, .bool true, .slice none 0 0] 61)) (Below.refl _ _) HFR.out HLEN.out ?_); intro v1 w12 hr hb hg hat; clear hb hat; obtain ⟨A12, c12, rfl, -⟩ := Kd.R_reads hr; have hbD := blk_grown (blk_alloc HD10.out (.cells #[.int .i64 q1.1, .int .i64 q2.1, .bool true, .slice none 0 0] 61)) hg (fun e => by have := HOB.out _ e.symm; omega); have hv2 : w12.cell? ⟨D, 2, none⟩ = some (.slice Av k cv) := (blk_cell hbD 2).trans rfl; have hvf : w12.frozen? ⟨D, 2, none⟩ = false := blk_frozen hbD 2; have HBD := Aside0.mk hbD; have HR12 := Aside0.mk hr; have HG12 := Aside0.mk hg; clear hr hg hbD))
        all_goals (
          have o3 := (((Only.refl w10 (fun i => i = D ∨ w7.heap.size ≤ i)).alloc (.cells #[.int .i64 q1.1, .int .i64 q2.1, .bool true, .slice none 0 0] 61)).same (Only.of_grown HG12.out (S := fun i => i = D ∨ w7.heap.size ≤ i) (fun i hi => .inr (HOB.out i hi)))).setCell (p := ⟨D, 2, none⟩) (Or.inl (Or.inl (Eq.refl D))) (.slice A12 (rows ++ [([.int .i64 q1.1, .int .i64 q2.1, .bool true, .slice none 0 0] : List Value)]).length c12)
          have hST : ∀ i, S i → ¬ (i = D ∨ w7.heap.size ≤ i) := fun i hi h => by have := HSD.out i hi; omega
          have hIE := HI10.out.only o3 hST (by omega) (fun i hi => by omega)
          have e1 : (rSt (k + 1) b).2 = (l3, b3) := by rw [HSS.out, HRE.out]
          have e2 : (rSt (k + 1) b).1 = (rSt k b).1 ++ [(⟨q1.1, q2.1, true, []⟩ : S61)] := by rw [HSS.out, HRE.out]
          have hme := lenAt_of hIE.rd
          have hLT := HLT.out
          rw [HRE.out] at hLT
          dsimp only at hLT
          simp only [List.length_append, List.length_singleton] at o3 hIE hme ⊢
          rw [HRLN.out] at o3 hIE hme ⊢
          have hr12 := HR12.out
          simp only [List.length_append, List.length_singleton] at hr12
          rw [HRLN.out] at hr12
          refine ⟨⟨k + 1, _, rows ++ [([.int .i64 q1.1, .int .i64 q2.1, .bool true, .slice none 0 0] : List Value)], ⟨.inr (by have := HGO.out.1; omega)⟩, ⟨by rw [e1]; exact hIE⟩, ⟨blk_put HBD.out 2 _ rfl⟩, ⟨Kd.R_far (p := ⟨D, 2, none⟩) hr12 (fun i hi => by show i ≠ D; omega) _⟩, ⟨by rw [e2]; exact (HOK10.out.only o3 hST).snoc (⟨q1.1, q2.1, true, []⟩ : S61) (Nat.le_refl _) ⟨⟨rfl, Nat.zero_le _, fun h => absurd h (Nat.lt_irrefl 0)⟩, fun h => absurd h (Nat.lt_irrefl 0)⟩ (fun h => absurd h (Nat.lt_irrefl 0))⟩, ⟨Nat.le_trans HFR.out (Nat.le_trans HG12.out.size (by simp [World.setCell]))⟩, ⟨by rw [e1]; have := HLN.out; simp only; omega⟩⟩, ?_⟩
          rw [hme, HME.out]
          exact hLT
)
    · have HEX := Aside0.mk hgo
      have hex : ((k : Int) < (rNn b).1 ∧ ¬ 0 < (rSt k b).2.1.length) ∨ ¬ (k : Int) < (rNn b).1 := by omega
      clear hgo
      have hrsl : (rSt k b).1.length = k := stR_len _ _ _
      have HRSL := Aside0.mk hrsl
      clear hrsl
      rcases hex with ⟨hkn, hl⟩ | hkn
      all_goals (
        go_wp2_with fail
        first
          | (refine (wire_Reader_Byte.calls S _ _ _ _ HI.out.rd).mono ?_)
          | (refine (wire_Reader_Left.calls S _ _ _ _ HI.out.rd).mono ?_; rintro e w8 ⟨rfl, rfl⟩; go_wp2_with fail; refine (wire_Reader_Byte.calls S _ _ _ _ HI.out.rd).mono ?_)
        rintro e w8 ⟨rfl, hx⟩
        have HI8 := Aside0.mk (HI.out.step hx)
        have HD8 := Aside0.mk (hx.only.same_block HD.out (fun e => by have := Pt_eq e; omega))
        have HRW8 := Aside0.mk (R_only HRW.out hx.only (fun i hi e => by have := Pt_eq e; omega))
        have HOK8 := Aside0.mk (HOK.out.only hx.only (fun i hi e => by have := Pt_eq e; have := (HI.out.sw i hi).2; omega))
        have hs8 := hx.only.size
        clear hx HI HD HRW HOK hz2
        change Aside0 (TkI w w8 S p (rLa k b).2.1 (rLa k b).2.2) at HI8
        rw [show (byteS (rSt k b).2.1 (rSt k b).2.2).1 = (rLa k b).1 from rfl]
        have hz0 : w8.cell? ⟨D, 0, none⟩ = some (.int .i64 (rFr b).1) := (blk_cell HD8.out 0).trans rfl
        have hz1 : w8.cell? ⟨D, 1, none⟩ = some (.int .i64 (rTo b).1) := (blk_cell HD8.out 1).trans rfl
        have hz2 : w8.cell? ⟨D, 2, none⟩ = some (.slice Av k cv) := (blk_cell HD8.out 2).trans rfl
        have hput := diff_Put.calls (rFr b).1 (rTo b).1 Av cv (rSt k b).1 w8 (by have h1 := (Kd.R_reads' HRW8.out).2.2; have h2 := C_of_rows h1 HOK8.out; exact h2) (by have := (Kd.R_reads' HRW8.out).2.1; rw [HRSL.out]; exact this) (by rw [HRSL.out]; have := HLN.out; omega)
        rw [HRSL.out] at hput
        have HPUT := Aside0.mk hput
        clear hput
        go_wp2_with fail
        refine HPUT.out.mono ?_
        rintro e w9 ⟨v9, rfl, ho9, hb9⟩
        obtain ⟨A9, c9, rfl, -⟩ := Kd.R_reads ho9
        have HO9 := Aside0.mk ho9
        have HI9 := Aside0.mk (HI8.out.below hb9)
        have HD9 := Aside0.mk (blk_below HD8.out hb9)
        have HRW9 := Aside0.mk (Kd.R_below HRW8.out hb9)
        have HOK9 := Aside0.mk (HOK8.out.only (Only.of_below hb9 (fun _ => False)) (fun _ _ h => h))
        clear ho9 hb9 HPUT HI8 HD8 HRW8 HOK8 hz0 hz1 hz2
        have hy0 : w9.cell? ⟨w.heap.size, 0, none⟩ = some (.int .i64 0) := (blk_cell HI9.out.bk 0).trans rfl
        have hy1 : w9.cell? ⟨w.heap.size, 1, none⟩ = some (.int .i64 0) := (blk_cell HI9.out.bk 1).trans rfl
        have hy2 : w9.cell? ⟨w.heap.size, 2, none⟩ = some (.slice none 0 0) := (blk_cell HI9.out.bk 2).trans rfl
        have hf0 : w9.frozen? ⟨w.heap.size, 0, none⟩ = false := blk_frozen HI9.out.bk 0
        have hf1 : w9.frozen? ⟨w.heap.size, 1, none⟩ = false := blk_frozen HI9.out.bk 1
        have hf2 : w9.frozen? ⟨w.heap.size, 2, none⟩ = false := blk_frozen HI9.out.bk 2
        by_cases hg : goodD (rFr b).1 (rTo b).1 (rSt k b).1 = true
        case neg =>
          have hO : putO (rFr b).1 (rTo b).1 (rSt k b).1 = ([], some 2) := if_neg hg
          have HGN := Aside0.mk hg
          rw [hO, errW_some] at *
          clear hO hg
          go_wp2
          refine bodyPost_ret (results_ct rfl _ _ w.heap.size 35 #[.int .i64 0, .int .i64 0, .slice none 0 0] (0, 0) _ rfl (blk_put (blk_put (blk_put HI9.out.bk 0 _ rfl) 1 _ rfl) 2 _ rfl) Try.underlying35 rfl (by kernel_rfl)) rfl ?_
          exact ⟨0, 0, [], .slice none 0 0, some 2, by simp [errW_some], .inr ⟨rfl, rfl, rfl, rfl, rfl, fun h => HGN.out (stop_ok HK.out HEX.out h).1⟩, below_set (below_set (below_set HI9.out.bel (Nat.le_refl _)) (Nat.le_refl _)) (Nat.le_refl _)⟩

        have hO : putO (rFr b).1 (rTo b).1 (rSt k b).1 = (putL (rFr b).1 (rTo b).1 (rSt k b).1, none) := if_pos hg
        have HGY := Aside0.mk hg
        rw [hO] at HO9
        rw [hO, errW_none]
        clear hO hg
        cases nb
        case false =>
          go_wp2
          refine bodyPost_ret (results_ct rfl _ _ w.heap.size 35 #[.int .i64 0, .int .i64 0, .slice none 0 0] (0, 0) _ rfl (blk_put (blk_put (blk_put HI9.out.bk 0 _ rfl) 1 _ rfl) 2 _ rfl) Try.underlying35 rfl (by kernel_rfl)) rfl ?_
          exact ⟨0, 0, [], .slice none 0 0, some 2, by simp [errW_some], .inr ⟨rfl, rfl, rfl, rfl, rfl, fun h => of_decide_eq_false HNB.out (stop_ok HK.out HEX.out h).2.1⟩, below_set (below_set (below_set HI9.out.bel (Nat.le_refl _)) (Nat.le_refl _)) (Nat.le_refl _)⟩

        by_cases h69 : (rLa k b).1 = 69
        case neg =>
          have HNE := Aside0.mk h69
          go_wp2
          refine bodyPost_ret (results_ct rfl _ _ w.heap.size 35 #[.int .i64 0, .int .i64 0, .slice none 0 0] (0, 0) _ rfl (blk_put (blk_put (blk_put HI9.out.bk 0 _ rfl) 1 _ rfl) 2 _ rfl) Try.underlying35 rfl (by kernel_rfl)) rfl ?_
          exact ⟨0, 0, [], .slice none 0 0, some 2, by simp [errW_some], .inr ⟨rfl, rfl, rfl, rfl, rfl, fun h => HNE.out (stop_ok HK.out HEX.out h).2.2.1⟩, below_set (below_set (below_set HI9.out.bel (Nat.le_refl _)) (Nat.le_refl _)) (Nat.le_refl _)⟩

        have H69 := Aside0.mk h69
        rw [h69]
        clear h69
        go_wp2_with fail
        refine (wire_Reader_End.calls S _ _ _ _ HI9.out.rd).mono ?_
        rintro e w10 ⟨rfl, rfl⟩
        by_cases hen : endE (rLa k b).2.1 (rLa k b).2.2 = none
        case neg =>
          have hen2 : endE (rLa k b).2.1 (rLa k b).2.2 = some 2 := by unfold endE at hen ⊢; split at hen <;> simp_all
          have HEN := Aside0.mk hen
          rw [hen2, errW_some]
          clear hen hen2
          go_wp2
          refine bodyPost_ret (results_ct rfl _ _ w.heap.size 35 #[.int .i64 0, .int .i64 0, .slice none 0 0] (0, 0) _ rfl (blk_put (blk_put (blk_put HI9.out.bk 0 _ rfl) 1 _ rfl) 2 _ rfl) Try.underlying35 rfl (by kernel_rfl)) rfl ?_
          exact ⟨0, 0, [], .slice none 0 0, some 2, by simp [errW_some], .inr ⟨rfl, rfl, rfl, rfl, rfl, fun h => HEN.out (stop_ok HK.out HEX.out h).2.2.2.1⟩, below_set (below_set (below_set HI9.out.bel (Nat.le_refl _)) (Nat.le_refl _)) (Nat.le_refl _)⟩

        have HEN := Aside0.mk hen
        rw [hen, errW_none]
        clear hen
        go_wp2_with fail
        refine (slices_Equal_byte_byte.calls (b.length + 1) A9 c9 (putL (rFr b).1 (rTo b).1 (rSt k b).1) A0 c0 b _ _ (Kd.R_reads' HO9.out).2.2 (Kd.R_reads' HO9.out).2.1 (HR0.out.old HI9.out.bel).row hc0 (equal_f2 _ _ hl0 _ (by omega))).mono ?_
        rintro e w10 ⟨rfl, ⟨n10, rfl⟩⟩
        by_cases heq : putL (rFr b).1 (rTo b).1 (rSt k b).1 = b
        case neg =>
          have HNQ := Aside0.mk heq
          rw [decide_eq_false heq]
          clear heq
          go_wp2
          refine bodyPost_ret (results_ct rfl _ _ w.heap.size 35 #[.int .i64 0, .int .i64 0, .slice none 0 0] (0, 0) _ rfl (blk_put (blk_put (blk_put (blk_drewN HI9.out.bk n10) 0 _ rfl) 1 _ rfl) 2 _ rfl) Try.underlying35 rfl (by kernel_rfl)) rfl ?_
          exact ⟨0, 0, [], .slice none 0 0, some 2, by simp [errW_some], .inr ⟨rfl, rfl, rfl, rfl, rfl, fun h => HNQ.out (stop_ok HK.out HEX.out h).2.2.2.2⟩, below_set (below_set (below_set (pw_below_drewN HI9.out.bel _) (Nat.le_refl _)) (Nat.le_refl _)) (Nat.le_refl _)⟩

        have HEQ := Aside0.mk heq
        rw [decide_eq_true heq]
        clear heq
        have hz0 : w9.cell? ⟨D, 0, none⟩ = some (.int .i64 (rFr b).1) := (blk_cell HD9.out 0).trans rfl
        have hz1 : w9.cell? ⟨D, 1, none⟩ = some (.int .i64 (rTo b).1) := (blk_cell HD9.out 1).trans rfl
        have hz2 : w9.cell? ⟨D, 2, none⟩ = some (.slice Av k cv) := (blk_cell HD9.out 2).trans rfl
        go_wp2
        refine bodyPost_ret (results_ct rfl _ _ w.heap.size 35 #[.int .i64 (rFr b).1, .int .i64 (rTo b).1, .slice Av k cv] (0, 0) _ rfl (blk_put (blk_put (blk_put (blk_drewN HI9.out.bk n10) 0 _ rfl) 1 _ rfl) 2 _ rfl) Try.underlying35 rfl (by kernel_rfl)) rfl ?_
        refine ⟨(rFr b).1, (rTo b).1, (rSt k b).1, .slice Av k cv, none, by simp [errW_none], .inl ⟨rfl, HGY.out, HEQ.out, rows, S, ?_, ?_, fun i hi => Nat.le_of_lt (HI9.out.sw i hi).1⟩, below_set (below_set (below_set (pw_below_drewN HI9.out.bel _) (Nat.le_refl _)) (Nat.le_refl _)) (Nat.le_refl _)⟩
        · have hwp := HI9.out.pw
          have h1 : ∀ i, w7.heap.size ≤ i → i ≠ w.heap.size := fun i hi => by omega
          exact Kd.R_mono (Kd.R_lower (Kd.R_far (Kd.R_far (Kd.R_far (Kd.R_drewN HRW9.out n10) h1 _) h1 _) h1 _) (by omega)) (fun i hi => ⟨by omega, fun h => by have := HSD.out i h; omega⟩)
        · exact HOK9.out.only (((((Only.refl w9 (fun i => i = w.heap.size)).drewN n10).setCell (p := ⟨w.heap.size, 0, none⟩) (Or.inl (Eq.refl w.heap.size)) _).setCell (p := ⟨w.heap.size, 1, none⟩) (Or.inl (Eq.refl w.heap.size)) _).setCell (p := ⟨w.heap.size, 2, none⟩) (Or.inl (Eq.refl w.heap.size)) _) (fun i hi h => by have := (HI9.out.sw i hi).1; omega))

end Go.Proofs.Ytdehifinipmmcaa.Hp
