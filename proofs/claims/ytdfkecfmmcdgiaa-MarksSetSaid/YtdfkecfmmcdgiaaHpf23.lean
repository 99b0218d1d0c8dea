/- Contracts of functions of the given program, and what they lean on: written by this session's own program hprint.py, which lays hand texts into the kit's printer. -/
import Derived.Test.YtdfkecfmmcdgiaaHp0
import Derived.Test.YtdfkecfmmcdgiaaHpf35
import Derived.Test.YtdfkecfmmcdgiaaHpf38
namespace Go.Proofs.Ytdfkecfmmcdgiaa.Hp
open Go.RowKit Go.Proofs.YtdfkecfmmcdgiaaW.PrintWords Go.Proofs.YtdfkecfmmcdgiaaW.PrintLast Go.Proofs.YtdfkecfmmcdgiaaW.PrintMore
attribute [local go_sem] max2_int min2_int max_two min_two max_three min_three max_four min_four   -- for this text's walks alone
set_option linter.unusedVariables false
set_option linter.unusedSimpArgs false

/-! ### marks_Put: function 23 -/
def marks_Put.o0 (l0 : List Int) : List Int := ((List.replicate (2 + (l0.length + 3) / 4) 0).set 0 (l0.length % 256 : Int)).set 1 (l0.length / 256 : Int)
def marks_Put.o (l0 : List Int) : Nat → List Int
  | 0 => marks_Put.o0 l0
  | k + 1 => (marks_Put.o l0 k).set (2 + k / 4) (bits .or .u8 (rdOf 0 (marks_Put.o l0 k) (2 + (k : Int) / 4)) (rd l0 k * 2 ^ (k % 4 * 2) % 256))
theorem marks_Put.o_len (l0 : List Int) (k : Nat) : (marks_Put.o l0 k).length = 2 + (l0.length + 3) / 4 := by
  induction k with
  | zero => simp [marks_Put.o, marks_Put.o0]
  | succ k ih => simp [marks_Put.o, ih]
theorem marks_Put.calls0 (A0 : Option Addr) (c0 : Nat) (l0 : List Int) (w : World) (hr0 : Kd.C (Kd.int .u8) w A0 l0.length l0) (hl : l0.length ≤ 256) (ha : (l0.any (fun x => decide (x > 3))) = false) :
    Calls Try.prog 23 #[.slice A0 l0.length c0] w fun e w' => ∃ v0_ : Value, e = .returned (.tuple #[v0_, errW none]) ∧ Kd.R (Kd.int .u8) 5 w' w.heap.size (fun _ => True) v0_ (marks_Put.o l0 l0.length) ∧ Below w.heap.size w w' := by
  have HCF := fun W (h : Kd.C (Kd.int .u8) W A0 l0.length l0) => ha ▸ marks_Marks_byte_38.calls A0 c0 l0 W h
  have HS := fun W => marks_sound.calls (l0.length : Int) true W (by unfold marks_sound.f; rw [if_pos (by omega)]; simp; omega)
  have HR := Aside0.mk hr0
  clear hr0 ha
  go_enter Try.func23, Try.ntmps23
  go_wp2_with fail
  refine (HS _).mono ?_
  rintro e w1 ⟨rfl, ⟨n2, rfl⟩⟩
  go_wp2_with fail
  refine (HCF _ (Kd.C_drewN HR.out _)).mono ?_
  rintro e w1 ⟨rfl, ⟨n3, rfl⟩⟩
  have hN : (2 + ((l0.length : Int) + 4 - 1) / 4).toNat = 2 + (l0.length + 3) / 4 := by omega
  go_wp2_with (first | ((with_reducible refine gate_dst (N := 22) rfl ?_); (try (refine gate_guard (by rfl) ?_; dsimp only)); refine Kd.R_make (Kd.int .u8) (w0 := w) w.heap.size 5 rfl (N := 22) rfl 22 _ _ rfl (2 + ((l0.length : Int) + 4 - 1) / 4) rfl rfl Try.underlying22 (.int .u8 0) 1 info5 rfl (by decide) (by omega) 0 (ok := fun _ => True) (okp := fun _ => True) rfl (fun _ hk => hk) trivial (by omega) (by omega) (pw_below_drewN (Below.refl _ _) _) (Nat.le_refl _) ?_; intro v2 w2 ho hb hg hnew; clear hg hnew; rw [hN] at ho; (obtain ⟨g, cap, rfl, hgb, hgl, -⟩ := Kd.R_form ho (by rw [List.length_replicate]; omega)); rw [List.length_replicate] at ho; have hx0 := (Kd.R_celln (enc := Value.int .u8) (h1 := fun _ => rfl) 0 ho (0 : Int) (by omega) (by omega)); have hx1 := (Kd.R_celln (enc := Value.int .u8) (h1 := fun _ => rfl) 0 ho (1 : Int) (by omega) (by omega)); obtain ⟨hx0, hf0⟩ := hx0; obtain ⟨hx1, hf1⟩ := hx1; simp only [Int.reduceToNat] at hx0 hf0 hx1 hf1; simp only [List.length_replicate]; have HO := Aside0.mk ho; have HB := Aside0.mk hb; clear ho hb))
  have hN2 : (2 + (l0.length + 3) / 4) ≤ 1000 := by omega
  generalize hNN : 2 + (l0.length + 3) / 4 = N at *
  go_loopw [36] (fun v36 wr => ∃ k : Nat, k ≤ l0.length ∧ v36 = .int .i64 k ∧ Aside0 (Kd.R (Kd.int .u8) 5 wr w.heap.size (fun _ => True) (.slice (some ⟨g, 0, none⟩) N cap) (marks_Put.o l0 k)) ∧ Aside0 (Below w.heap.size w wr)) (fun v36 _ => l0.length - (intOf v36).toNat)
  case atStart =>
    refine ⟨0, by omega, rfl, ⟨?_⟩, ⟨?_⟩⟩
    · have h1 := Kd.R_putn (Kd.R_putn HO.out 0 ((l0.length : Int) % 256)) 1 (l0.length / 256 : Int)
      subst hNN
      exact h1
    · exact (HB.out.setCell (p := ⟨g, 0, none⟩) hgb _).setCell (p := ⟨g, 1, none⟩) hgb _
  case round =>
    obtain ⟨k, hk, rfl, HO, HB⟩ := hrel
    have HL := Aside0.mk (marks_Put.o_len l0 k)
    by_cases hlt : k < l0.length
    · obtain ⟨ad, e, hx⟩ := Kd.at_int HR.out k (by omega) (by omega)
      subst e
      simp only [Int.toNat_natCast] at hx
      replace hx := (HB.out.cell (World.block_lt_of_cell? w _ hx)).trans hx
      obtain ⟨hy, hfy⟩ := Kd.R_celln (enc := Value.int .u8) (h1 := fun _ => rfl) 0 HO.out (2 + (k : Int) / 4) (by omega) (by omega)
      rw [show (2 + (k : Int) / 4).toNat = 2 + k / 4 by omega] at hy hfy
      have h0 : (0 : Int) ≤ 2 + (k : Int) / 4 := by omega
      have h1 : (2 + (k : Int) / 4) < N := by omega
      have q0 : (2 + (k : Int) / 4).toNat = 2 + k / 4 := by omega
      have q1 : IntKind.i64.wrap ((k : Int) / 4) = (k : Int) / 4 := IntWalk.i64_in _ (by omega)
      have q2 : IntKind.i64.wrap (2 + (k : Int) / 4) = 2 + (k : Int) / 4 := IntWalk.i64_in _ (by omega)
      have q7 : ((k : Int) % 4 * 2).toNat = k % 4 * 2 := by omega
      have q8 : (0 : Int) ≤ (k : Int) % 4 * 2 := by omega
      have q3 : ((k : Int).tmod 4) = (k : Int) % 4 := by rw [Int.tmod_eq_emod_of_nonneg (by omega)]
      have q4 : IntKind.i64.wrap ((k : Int) % 4) = (k : Int) % 4 := IntWalk.i64_in _ (by omega)
      have q5 : IntKind.i64.wrap ((k : Int) % 4 * 2) = (k : Int) % 4 * 2 := by rw [IntWalk.i64_in _ (by omega)]
      go_wp2
      go_still_tail 13, (by kernel_rfl)
      change wpList _ _ _ _ _ wr.drew
      go_wp2
      clear q0 q1 q2 q3 q4 q5 q7 q8
      refine ⟨⟨k + 1, by omega, by go_num, ⟨?_⟩, ⟨(HB.out.setCell (p := ⟨g, 2 + k / 4, none⟩) hgb _).drew⟩⟩, by simp [intOf]; omega⟩
      have h3 := Kd.R_putn (enc := Value.int .u8) (h1 := fun _ => rfl) HO.out (2 + (k : Int) / 4) (bits .or .u8 (rdOf 0 (marks_Put.o l0 k) (2 + (k : Int) / 4)) (rd l0 k * 2 ^ (k % 4 * 2) % 256))
      rw [show (2 + (k : Int) / 4).toNat = 2 + k / 4 by omega] at h3
      exact Kd.R_drew h3
    · obtain rfl : k = l0.length := by omega
      go_wp2
      go_ret2
      exact ⟨_, rfl, HO.out, HB.out⟩
theorem marks_Put.calls1 (A0 : Option Addr) (c0 : Nat) (l0 : List Int) (w : World) (hr0 : Kd.C (Kd.int .u8) w A0 l0.length l0) (hl : 256 < l0.length ∨ (l0.any (fun x => decide (x > 3))) = true) :
    Calls Try.prog 23 #[.slice A0 l0.length c0] w fun e w' => e = .returned (.tuple #[.slice none 0 0, errW (some 2)]) ∧ Drawn0 w w' := by
  have hu27 := Try.underlying27
  have hu33 := Try.underlying33
  have hlm := hr0.2.1
  by_cases h2 : 256 < l0.length
  · have HS := fun W => marks_sound.calls (l0.length : Int) false W (by unfold marks_sound.f; rw [if_pos (by omega)]; simp; omega)
    clear hr0 hl
    go_enter Try.func23, Try.ntmps23
    go_wp2_with fail
    refine (HS _).mono ?_
    rintro e w1 ⟨rfl, ⟨n2, rfl⟩⟩
    go_wp2
    go_ret2
    exact ⟨by simp [errW_some], ⟨_, rfl⟩⟩
  · have ha : (l0.any (fun x => decide (x > 3))) = true := by
      rcases hl with h | h
      · omega
      · exact h
    have HCF := fun W (h : Kd.C (Kd.int .u8) W A0 l0.length l0) => ha ▸ marks_Marks_byte_38.calls A0 c0 l0 W h
    have HS := fun W => marks_sound.calls (l0.length : Int) true W (by unfold marks_sound.f; rw [if_pos (by omega)]; simp; omega)
    have HR := Aside0.mk hr0
    clear hr0 ha hl
    go_enter Try.func23, Try.ntmps23
    go_wp2_with fail
    refine (HS _).mono ?_
    rintro e w1 ⟨rfl, ⟨n2, rfl⟩⟩
    go_wp2_with fail
    refine (HCF _ (Kd.C_drewN HR.out _)).mono ?_
    rintro e w1 ⟨rfl, ⟨n3, rfl⟩⟩
    go_wp2
    go_ret2
    exact ⟨by simp [errW_some], ⟨_, rfl⟩⟩
def marks_Put.f (l0 : List Int) : Option (List Int × Option Int) := some (if l0.length ≤ 256 ∧ (l0.any (fun x => decide (x > 3))) = false then (marks_Put.o l0 l0.length, none) else ([], some 2))
theorem marks_Put.calls (A0 : Option Addr) (c0 : Nat) (l0 : List Int) (r1 : List Int) (r2 : Option Int) (w : World) (hr0 : Kd.C (Kd.int .u8) w A0 l0.length l0) (_hc0 : l0.length ≤ c0) (h : marks_Put.f l0 = some (r1, r2)) :
    Calls Try.prog 23 #[.slice A0 l0.length c0] w fun e w' => ∃ v0_ : Value, e = .returned (.tuple #[v0_, errW r2]) ∧ Kd.R (Kd.int .u8) 5 w' w.heap.size (fun _ => True) v0_ r1 ∧ Below w.heap.size w w' := by
  unfold marks_Put.f at h
  by_cases hg : l0.length ≤ 256 ∧ (l0.any (fun x => decide (x > 3))) = false
  · rw [if_pos hg] at h
    obtain ⟨rfl, rfl⟩ := Prod.mk.inj (Option.some.inj h)
    exact marks_Put.calls0 A0 c0 l0 w hr0 hg.1 hg.2
  · rw [if_neg hg] at h
    obtain ⟨rfl, rfl⟩ := Prod.mk.inj (Option.some.inj h)
    refine (marks_Put.calls1 A0 c0 l0 w hr0 ?_).mono ?_
    · by_cases h1 : 256 < l0.length
      · exact .inl h1
      · right
        cases h3 : l0.any (fun x => decide (x > 3))
        · exact absurd ⟨by omega, h3⟩ hg
        · rfl
    · rintro e w1 ⟨rfl, ⟨n, rfl⟩⟩
      exact ⟨_, rfl, Kd.R_nil _ _ _ _ _, pw_below_drewN (Below.refl _ _) _⟩

-- AUX takew
/-- The count of marks that two bytes say. -/
def cntI (l : List Int) : Int := rd l 0 + 256 * rd l 1
theorem cnt_or (a b : Int) (h0 : 0 ≤ a) (h1 : a < 256) (h2 : 0 ≤ b) (h3 : b < 256) : bits .or .i64 a (b * 256) = a + 256 * b := by
  obtain ⟨x, rfl⟩ := Int.eq_ofNat_of_zero_le h0
  obtain ⟨y, rfl⟩ := Int.eq_ofNat_of_zero_le h2
  have hx : x < 2 ^ 63 := by omega
  have hy : y * 256 < 2 ^ 63 := by omega
  have h := (bits_nat .i64 63 (by decide) (fun n h4 h5 => IntWalk.i64_in n (by omega)) x (y * 256) hx hy).2
  rw [show (((y * 256 : Nat) : Int)) = (y : Int) * 256 by omega] at h
  rw [h, Nat.or_comm, show y * 256 = 2 ^ 8 * y by omega, ← Nat.two_pow_add_eq_or_of_lt (by omega : x < 2 ^ 8) y]
  omega
theorem and3 (x : Int) (h0 : 0 ≤ x) (h1 : x < 256) : bits .and .u8 x 3 = x % 4 := bits_mask .u8 8 (by decide) wraps_u8 2 (by decide) x h0 h1
/-- The marks that bytes say. -/
def tkV (l : List Int) (j : Nat) : Int := rd l (2 + j / 4 : Nat) / 2 ^ (j % 4 * 2) % 4
def tkL (l : List Int) : List Int := (List.range (cntI l).toNat).map (tkV l)
def tkO (l : List Int) (n : Nat) : Nat → List Int
  | 0 => List.replicate n 0
  | k + 1 => (tkO l n k).set k (tkV l k)
theorem tkO_len (l : List Int) (n k : Nat) : (tkO l n k).length = n := by
  induction k with
  | zero => simp [tkO]
  | succ k ih => simp [tkO, ih]
theorem tkO_get (l : List Int) (n k j : Nat) (hk : k ≤ n) (hj : j < k) : (tkO l n k)[j]? = some (tkV l j) := by
  induction k with
  | zero => omega
  | succ k ih =>
    unfold tkO
    rw [List.getElem?_set]
    by_cases e : k = j
    · subst e; rw [if_pos rfl, if_pos (by rw [tkO_len]; omega)]
    · rw [if_neg e, ih (by omega) (by omega)]
theorem tkO_all (l : List Int) : tkO l (cntI l).toNat (cntI l).toNat = tkL l := by
  apply List.ext_getElem?
  intro j
  by_cases hj : j < (cntI l).toNat
  · rw [tkO_get l _ _ j (Nat.le_refl _) hj]; simp [tkL, hj]
  · rw [List.getElem?_eq_none (by rw [tkO_len]; omega), List.getElem?_eq_none (by simp [tkL]; omega)]
theorem tk_marks (l : List Int) : ∀ x ∈ tkL l, 0 ≤ x ∧ x ≤ 3 := by
  intro x hx
  obtain ⟨j, _, rfl⟩ := List.mem_map.1 hx
  unfold tkV
  omega
theorem rd_bytes {l : List Int} (h : ∀ x ∈ l, 0 ≤ x ∧ x < 256) (i : Nat) : 0 ≤ rd l i ∧ rd l i < 256 := by
  unfold rd
  rw [Int.toNat_natCast]
  by_cases hi : i < l.length
  · have := h l[i] (List.getElem_mem hi)
    simpa [List.getD_eq_getElem?_getD, hi] using this
  · simp [List.getD_eq_getElem?_getD, List.getElem?_eq_none (show l.length ≤ i by omega)]

end Go.Proofs.Ytdfkecfmmcdgiaa.Hp
