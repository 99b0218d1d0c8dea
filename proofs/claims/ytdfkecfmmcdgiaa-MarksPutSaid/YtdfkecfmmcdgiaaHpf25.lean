/- Contracts of functions of the given program, and what they lean on: written by this session's own program hprint.py, which lays hand texts into the kit's printer. -/
import Derived.Test.YtdfkecfmmcdgiaaHp0
import Derived.Test.YtdfkecfmmcdgiaaHpf35
import Derived.Test.YtdfkecfmmcdgiaaHpf23
import Derived.Test.YtdfkecfmmcdgiaaHpf24
import Derived.Test.YtdfkecfmmcdgiaaHpf39
import Derived.Test.YtdfkecfmmcdgiaaHpf26
namespace Go.Proofs.Ytdfkecfmmcdgiaa.Hp
open Go.RowKit Go.Proofs.YtdfkecfmmcdgiaaW.PrintWords Go.Proofs.YtdfkecfmmcdgiaaW.PrintLast Go.Proofs.YtdfkecfmmcdgiaaW.PrintMore
attribute [local go_sem] max2_int min2_int max_two min_two max_three min_three max_four min_four   -- for this text's walks alone
set_option linter.unusedVariables false
set_option linter.unusedSimpArgs false

/-! ### marks_Take: function 25 -/
def marks_Take.ok (l0 : List Int) : Prop := 2 ≤ l0.length ∧ cntI l0 ≤ 256 ∧ (l0.length : Int) = 2 + (cntI l0 + 3) / 4 ∧ marks_Put.o (tkL l0) (tkL l0).length = l0
def marks_Take.r (l0 : List Int) : List Int := if marks_Put.o (tkL l0) (tkL l0).length = l0 then tkL l0 else []
def marks_Take.e (l0 : List Int) : Option Int := if marks_Put.o (tkL l0) (tkL l0).length = l0 then none else some 2
open Classical in
noncomputable def marks_Take.f (l0 : List Int) : Option (List Int × Option Int) := if (∀ x ∈ l0, 0 ≤ x ∧ x < 256) ∧ l0.length ≤ 1000000 then some (if marks_Take.ok l0 then (tkL l0, none) else ([], some 2)) else none
set_option maxRecDepth 100000 in
theorem marks_Take.calls0 (A0 : Option Addr) (c0 : Nat) (l0 : List Int) (w : World) (hr0 : Kd.C (Kd.int .u8) w A0 l0.length l0) (hc0 : l0.length ≤ c0) (hb : ∀ x ∈ l0, 0 ≤ x ∧ x < 256) (h2 : 2 ≤ l0.length) (hn : cntI l0 ≤ 256) (hl : (l0.length : Int) = 2 + (cntI l0 + 3) / 4) :
    Calls Try.prog 25 #[.slice A0 l0.length c0] w fun e w' => ∃ v0_ : Value, e = .returned (.tuple #[v0_, errW (marks_Take.e l0)]) ∧ Kd.R (Kd.int .u8) 5 w' w.heap.size (fun _ => True) v0_ (marks_Take.r l0) ∧ Below w.heap.size w w' := by
  have hu27 := Try.underlying27
  have hu33 := Try.underlying33
  have HBY := Aside0.mk hb
  obtain ⟨b0, b0'⟩ := rd_bytes hb 0
  obtain ⟨b1, b1'⟩ := rd_bytes hb 1
  simp only [Int.natCast_zero, Int.natCast_one] at b0 b0' b1 b1'
  have hor := cnt_or (rd l0 0) (rd l0 1) b0 b0' b1 b1'
  have HS := fun W => marks_sound.calls (cntI l0) true W (by unfold marks_sound.f cntI; rw [if_pos (by omega)]; simp; unfold cntI at hn; omega)
  obtain ⟨ad, e, hx0⟩ := Kd.at_int hr0 0 (by omega) (by omega)
  subst e
  obtain ⟨ad', e', hx1⟩ := Kd.at_int hr0 1 (by omega) (by omega)
  cases e'
  simp only [Int.reduceToNat] at hx0 hx1
  rw [show ad.add 0 = ad from rfl] at hx0
  have hx2 := hx1
  simp [Addr.add] at hx2
  have HR := Aside0.mk hr0
  have p0 : (0 : Int) < l0.length := by omega
  have p1 : (1 : Int) < l0.length := by omega
  have p2 : ¬ (l0.length : Int) < 2 := by omega
  have p3 : 0 < l0.length := by omega
  have p4 : l0 ≠ [] := by intro h; rw [h] at h2; simp at h2
  have p5 : 1 < l0.length := by omega
  have q0 : IntKind.i64.wrap (rd l0 0) = rd l0 0 := IntWalk.i64_in _ (by omega)
  have q1 : IntKind.i64.wrap (rd l0 1) = rd l0 1 := IntWalk.i64_in _ (by omega)
  have q2 : IntKind.i64.wrap (rd l0 1 * 256) = rd l0 1 * 256 := IntWalk.i64_in _ (by omega)
  rw [show rd l0 0 + 256 * rd l0 1 = cntI l0 from rfl] at hor
  obtain ⟨N, hN⟩ : ∃ N : Nat, cntI l0 = (N : Int) := ⟨(cntI l0).toNat, by unfold cntI; omega⟩
  rw [hN] at HS hor hn hl
  have hnn : N ≤ 256 := by omega
  have HN := Aside0.mk hN
  clear hN hn
  have HL := Aside0.mk hl
  clear hr0 hb hl
  go_enter Try.func25, Try.ntmps25
  go_wp2
  go_quiet (fail)
  clear q0 q1 q2 hor hx0 hx1 p0 p1
  have hne : ((l0.length : Int) != 2 + ((N : Int) + 4 - 1) / 4) = false := by
    rw [bne_eq_false_iff_eq]
    have := HL.out
    omega
  go_wp2_with fail
  refine (HS _).mono ?_
  rintro e w1 ⟨rfl, ⟨n2, rfl⟩⟩
  go_wp2_with (first | ((with_reducible refine gate_dst (N := 38) rfl ?_); (try (refine gate_guard (by rfl) ?_; dsimp only)); refine Kd.R_make (Kd.int .u8) (w0 := w) w.heap.size 5 rfl (N := 38) rfl 25 _ _ rfl (N : Int) rfl rfl Try.underlying25 (.int .u8 0) 1 info5 rfl (by decide) (by omega) 0 (ok := fun _ => True) (okp := fun _ => True) rfl (fun _ hk => hk) trivial (by omega) (by omega) (pw_below_drewN (Below.refl _ _) _) (Nat.le_refl _) ?_; intro v2 w2 ho hb hg hnew; clear hg hnew; rw [Int.toNat_natCast] at ho; have HO := Aside0.mk ho; have HB := Aside0.mk hb; (have hvl : ∃ A cap, v2 = .slice A N cap := (by obtain ⟨A, cap, e, -⟩ := Kd.R_reads ho; rw [List.length_replicate] at e; exact ⟨A, cap, e⟩)); obtain ⟨A, cap, rfl⟩ := hvl; clear ho hb))
  go_loopw [41] (fun v41 wr => ∃ k : Nat, k ≤ N ∧ v41 = .int .i64 k ∧ Aside0 (Kd.R (Kd.int .u8) 5 wr w.heap.size (fun _ => True) (.slice A N cap) (tkO l0 N k)) ∧ Aside0 (Below w.heap.size w wr)) (fun v41 _ => N - (intOf v41).toNat)
  case atStart => exact ⟨0, by omega, rfl, HO, HB⟩
  case round =>
    clear HO HB
    obtain ⟨k, hk, rfl, HO, HB⟩ := hrel
    have hll := HL.out
    by_cases hlt : k < N
    · obtain ⟨ad2, e2, hx⟩ := Kd.at_int HR.out (2 + (k : Int) / 4) (by omega) (by omega)
      cases e2
      rw [show (2 + (k : Int) / 4).toNat = 2 + k / 4 by omega] at hx
      have hblk := World.block_lt_of_cell? w _ hx
      replace hx := (HB.out.cell hblk).trans hx
      have hxb := rd_bytes HBY.out (2 + k / 4)
      rw [show ((2 + k / 4 : Nat) : Int) = 2 + (k : Int) / 4 by omega] at hxb
      obtain ⟨hxb0, hxb1⟩ := hxb
      obtain ⟨g, cap', hgv, hgb, hgl, -⟩ := Kd.R_form HO.out (by rw [tkO_len]; omega)
      injection hgv with hA e3 e4
      subst hA
      clear e3 e4
      obtain ⟨hold, hf⟩ := Kd.R_celln (enc := Value.int .u8) (h1 := fun _ => rfl) 0 HO.out (k : Int) (by omega) (by omega)
      rw [Int.toNat_natCast] at hf hold
      have HP := fun x => Kd.R_putn (enc := Value.int .u8) (h1 := fun _ => rfl) HO.out (k : Int) x
      simp only [Int.toNat_natCast] at HP
      have HP' := Aside0.mk HP
      have h3 : (2 + (k : Int) / 4) < l0.length := by omega
      have h4 : (0 : Int) ≤ 2 + (k : Int) / 4 := by omega
      have h5 : (2 + (k : Int) / 4).toNat = 2 + k / 4 := by omega
      have hkn : (k : Int) < N := by omega
      clear HP hll hne hblk HS hx2 p2 p3 p4 p5 b0 b0' b1 b1' h2 hgl
      go_wp2
      clear h5
      refine ⟨⟨k + 1, by omega, by go_num, ⟨?_⟩, ⟨HB.out.setCell (p := ⟨g, k, none⟩) hgb _⟩⟩, by simp [intOf]; omega⟩
      show Kd.R _ _ _ _ _ _ ((tkO l0 N k).set k (tkV l0 k))
      have hd0 : 0 ≤ rd l0 (2 + (k : Int) / 4) / 2 ^ (k % 4 * 2) := Int.ediv_nonneg hxb0 (Int.le_of_lt (Int.pow_pos (by decide)))
      have hd1 := Int.ediv_le_self (2 ^ (k % 4 * 2)) hxb0
      have hv : tkV l0 k = bits .and .u8 (rd l0 (2 + (k : Int) / 4) / 2 ^ (k % 4 * 2)) 3 := by
        rw [and3 _ hd0 (by omega)]
        rfl
      rw [← hv]
      exact HP'.out (tkV l0 k)
    · obtain rfl : k = N := by omega
      clear hll
      have HLEN : (tkL l0).length = k := by unfold tkL; rw [List.length_map, List.length_range, HN.out, Int.toNat_natCast]
      have HO2 : Kd.R (Kd.int .u8) 5 wr w.heap.size (fun _ => True) (.slice A k cap) (tkL l0) := by
        have h := HO.out
        have e := tkO_all l0
        rw [HN.out, Int.toNat_natCast] at e
        rw [e] at h
        exact h
      obtain ⟨hrl, hrc, hrC⟩ := Kd.R_reads' HO2
      have HPUT : ∀ W, Kd.C (Kd.int .u8) W A (tkL l0).length (tkL l0) → Calls Try.prog 23 #[.slice A k cap] W fun e w' => ∃ v0_ : Value, e = .returned (.tuple #[v0_, errW none]) ∧ Kd.R (Kd.int .u8) 5 w' W.heap.size (fun _ => True) v0_ (marks_Put.o (tkL l0) (tkL l0).length) ∧ Below W.heap.size W w' := by
        intro W hC
        have hput : marks_Put.f (tkL l0) = some (marks_Put.o (tkL l0) (tkL l0).length, none) := by
          unfold marks_Put.f
          have ha : ((tkL l0).any fun x => decide (x > 3)) = false := by
            rw [List.any_eq_false]
            intro x hx
            have := tk_marks l0 x hx
            simp
            omega
          rw [if_pos ⟨by omega, ha⟩]
        have := marks_Put.calls A cap (tkL l0) _ _ W hC (by omega) hput
        rw [HLEN] at this ⊢
        exact this
      have HO3 := Aside0.mk HO2
      have HRC := Aside0.mk hrC
      have HLE := Aside0.mk HLEN
      clear HO2 hrC hrl hrc HLEN HO HS hne p2 p3 p4 p5 hx2 b0 b0' b1 b1' hlt hk
      go_wp2_with fail
      refine (HPUT _ HRC.out).mono ?_
      rintro e w3 ⟨v3, rfl, ho3, hb3⟩
      clear HPUT
      generalize hOO : marks_Put.o (tkL l0) (tkL l0).length = O at *
      have hOl : O.length ≤ 1000 := by
        rw [← hOO, marks_Put.o_len]
        have := HLE.out
        omega
      obtain ⟨A3, c3, rfl, -⟩ := Kd.R_reads ho3
      obtain ⟨-, hc3, hC3⟩ := Kd.R_reads' ho3
      have hb4 := below_step HB.out hb3
      have hC4 := Kd.C_below HR.out (HB.out)
      have hr5 := Kd.R_below HO3.out hb3
      have hC5 := Kd.C_below hC4 hb3
      have HEQ := fun W (h1 : Kd.C (Kd.int .u8) W A3 O.length O) (h2 : Kd.C (Kd.int .u8) W (some ad) l0.length l0) => slices_Equal_byte_byte.calls 2000 A3 c3 O (some ad) c0 l0 (decide (O = l0)) W h1 hc3 h2 hc0 (eq_f O l0 (by omega) 2000 (by omega))
      have HO5 := Aside0.mk hr5
      have HB5 := Aside0.mk hb4
      have H1 := Aside0.mk hC3
      have H2 := Aside0.mk hC5
      clear ho3 hC3 hC4 hC5 hb4 hr5 hb3 hOl
      rw [errW_none]
      by_cases hol : O = l0
      · have hd : decide (O = l0) = true := decide_eq_true hol
        rw [hd] at HEQ
        have HE : Aside0 (marks_Take.r l0 = tkL l0 ∧ marks_Take.e l0 = none) := ⟨by unfold marks_Take.r; rw [if_pos (hOO.trans hol)], by unfold marks_Take.e; rw [if_pos (hOO.trans hol)]⟩
        clear hol hd hOO
        go_wp2_with fail
        refine (HEQ _ H1.out H2.out).mono ?_
        rintro e w5 ⟨rfl, ⟨n5, rfl⟩⟩
        go_wp2
        go_ret2
        rw [HE.out.1, HE.out.2]
        exact ⟨_, rfl, Kd.R_drewN HO5.out _, pw_below_drewN HB5.out _⟩
      · have hd : decide (O = l0) = false := decide_eq_false hol
        rw [hd] at HEQ
        have HE : Aside0 (marks_Take.r l0 = [] ∧ marks_Take.e l0 = some 2) := ⟨by unfold marks_Take.r; rw [if_neg (fun h => hol (hOO.symm.trans h))], by unfold marks_Take.e; rw [if_neg (fun h => hol (hOO.symm.trans h))]⟩
        clear hol hd hOO
        go_wp2_with fail
        refine (HEQ _ H1.out H2.out).mono ?_
        rintro e w5 ⟨rfl, ⟨n5, rfl⟩⟩
        go_wp2
        go_ret2
        rw [HE.out.1, HE.out.2]
        exact ⟨_, rfl, Kd.R_nil _ _ _ _ _, pw_below_drewN HB5.out _⟩
set_option maxRecDepth 100000 in
theorem marks_Take.calls1 (A0 : Option Addr) (c0 : Nat) (l0 : List Int) (w : World) (hr0 : Kd.C (Kd.int .u8) w A0 l0.length l0) (_hc0 : l0.length ≤ c0) (hb : ∀ x ∈ l0, 0 ≤ x ∧ x < 256) (hbad : ¬ (2 ≤ l0.length ∧ cntI l0 ≤ 256 ∧ (l0.length : Int) = 2 + (cntI l0 + 3) / 4)) :
    Calls Try.prog 25 #[.slice A0 l0.length c0] w fun e w' => e = .returned (.tuple #[.slice none 0 0, errW (some 2)]) ∧ Below w.heap.size w w' := by
  have hu27 := Try.underlying27
  have hu33 := Try.underlying33
  by_cases h2 : 2 ≤ l0.length
  · have hlm := hr0.2.1
    obtain ⟨b0, b0'⟩ := rd_bytes hb 0
    obtain ⟨b1, b1'⟩ := rd_bytes hb 1
    simp only [Int.natCast_zero, Int.natCast_one] at b0 b0' b1 b1'
    have hor := cnt_or (rd l0 0) (rd l0 1) b0 b0' b1 b1'
    obtain ⟨ad, e, hx0⟩ := Kd.at_int hr0 0 (by omega) (by omega)
    subst e
    obtain ⟨ad', e', hx1⟩ := Kd.at_int hr0 1 (by omega) (by omega)
    cases e'
    simp only [Int.reduceToNat] at hx0 hx1
    rw [show ad.add 0 = ad from rfl] at hx0
    have hx2 := hx1
    simp [Addr.add] at hx2
    have p0 : (0 : Int) < l0.length := by omega
    have p1 : (1 : Int) < l0.length := by omega
    have p2 : ¬ (l0.length : Int) < 2 := by omega
    have p3 : 0 < l0.length := by omega
    have p4 : l0 ≠ [] := by intro h; rw [h] at h2; simp at h2
    have p5 : 1 < l0.length := by omega
    have q0 : IntKind.i64.wrap (rd l0 0) = rd l0 0 := IntWalk.i64_in _ (by omega)
    have q1 : IntKind.i64.wrap (rd l0 1) = rd l0 1 := IntWalk.i64_in _ (by omega)
    have q2 : IntKind.i64.wrap (rd l0 1 * 256) = rd l0 1 * 256 := IntWalk.i64_in _ (by omega)
    rw [show rd l0 0 + 256 * rd l0 1 = cntI l0 from rfl] at hor
    obtain ⟨N, hN⟩ : ∃ N : Nat, cntI l0 = (N : Int) := ⟨(cntI l0).toNat, by unfold cntI; omega⟩
    have hnn : N ≤ 100000 := by unfold cntI at hN; omega
    rw [hN] at hor hbad
    clear hr0 hb hN
    by_cases hn : N ≤ 256
    · have HS := fun W => marks_sound.calls (N : Int) true W (by unfold marks_sound.f; rw [if_pos (by omega)]; simp; omega)
      have hne : ((l0.length : Int) != 2 + ((N : Int) + 4 - 1) / 4) = true := by
        rw [bne_iff_ne]
        intro e
        exact hbad ⟨h2, by omega, by omega⟩
      clear hbad
      go_enter Try.func25, Try.ntmps25
      go_wp2
      go_quiet (fail)
      clear q0 q1 q2 hor hx0 hx1 p0 p1
      go_wp2_with fail
      refine (HS _).mono ?_
      rintro e w1 ⟨rfl, ⟨n2, rfl⟩⟩
      go_wp2
      go_ret2
      exact ⟨rfl, pw_below_drewN (Below.refl _ _) _⟩
    · have HS := fun W => marks_sound.calls (N : Int) false W (by unfold marks_sound.f; rw [if_pos (by omega)]; simp; omega)
      clear hbad
      go_enter Try.func25, Try.ntmps25
      go_wp2
      go_quiet (fail)
      clear q0 q1 q2 hor hx0 hx1 p0 p1
      go_wp2_with fail
      refine (HS _).mono ?_
      rintro e w1 ⟨rfl, ⟨n2, rfl⟩⟩
      go_wp2
      go_ret2
      exact ⟨rfl, pw_below_drewN (Below.refl _ _) _⟩
  · clear hr0 hb hbad
    go_enter Try.func25, Try.ntmps25
    go_wp2
    go_ret2
    exact ⟨rfl, Below.refl _ _⟩
theorem marks_Take.calls (A0 : Option Addr) (c0 : Nat) (l0 : List Int) (r1 : List Int) (r2 : Option Int) (w : World) (hr0 : Kd.C (Kd.int .u8) w A0 l0.length l0) (hc0 : l0.length ≤ c0) (h : marks_Take.f l0 = some (r1, r2)) :
    Calls Try.prog 25 #[.slice A0 l0.length c0] w fun e w' => ∃ v0_ : Value, e = .returned (.tuple #[v0_, errW r2]) ∧ Kd.R (Kd.int .u8) 5 w' w.heap.size (fun _ => True) v0_ r1 ∧ Below w.heap.size w w' := by
  unfold marks_Take.f at h
  split at h
  case isFalse => cases h
  rename_i hp
  replace h := Option.some.inj h
  by_cases hk : 2 ≤ l0.length ∧ cntI l0 ≤ 256 ∧ (l0.length : Int) = 2 + (cntI l0 + 3) / 4
  · have := marks_Take.calls0 A0 c0 l0 w hr0 hc0 hp.1 hk.1 hk.2.1 hk.2.2
    by_cases ho : marks_Put.o (tkL l0) (tkL l0).length = l0
    · rw [if_pos (show marks_Take.ok l0 from ⟨hk.1, hk.2.1, hk.2.2, ho⟩)] at h
      obtain ⟨rfl, rfl⟩ := Prod.mk.inj h
      simpa only [marks_Take.r, marks_Take.e, if_pos ho] using this
    · rw [if_neg (fun g : marks_Take.ok l0 => ho g.2.2.2)] at h
      obtain ⟨rfl, rfl⟩ := Prod.mk.inj h
      simpa only [marks_Take.r, marks_Take.e, if_neg ho] using this
  · rw [if_neg (fun g : marks_Take.ok l0 => hk ⟨g.1, g.2.1, g.2.2.1⟩)] at h
    obtain ⟨rfl, rfl⟩ := Prod.mk.inj h
    refine (marks_Take.calls1 A0 c0 l0 w hr0 hc0 hp.1 hk).mono ?_
    rintro e w1 ⟨rfl, hb⟩
    exact ⟨_, rfl, Kd.R_nil _ _ _ _ _, hb⟩

-- AUX rtakew
theorem str_inj {a b : List Int} (ha : ∀ x ∈ a, 0 ≤ x ∧ x < 256) (hb : ∀ x ∈ b, 0 ≤ x ∧ x < 256) (h : strOfNums a = strOfNums b) : a = b := by
  have h1 : (a.map fun n => UInt8.ofNat n.toNat) = (b.map fun n => UInt8.ofNat n.toNat) := by rw [← strOfNums_data, ← strOfNums_data, h]
  have key : ∀ l : List Int, (∀ x ∈ l, 0 ≤ x ∧ x < 256) → (l.map fun n => UInt8.ofNat n.toNat).map (fun u => (u.toNat : Int)) = l := by
    intro l hl
    induction l with
    | nil => rfl
    | cons x l ih =>
      have hx := hl x (List.mem_cons_self ..)
      simp only [List.map_cons]
      rw [ih (fun y hy => hl y (List.mem_cons_of_mem _ hy))]
      congr 1
      rw [UInt8.toNat_ofNat']
      omega
  rw [← key a ha, ← key b hb, h1]
theorem rgood_go (m : List Int) (hm : m.length ≤ 2000) : ∀ (r i k : Nat), i + r = m.length → r < k → laminaref10_Good.l0 k m i = some (decide (∀ x ∈ m.drop i, x ≤ 3)) := by
  intro r
  induction r with
  | zero =>
    intro i k hi hk
    obtain ⟨k, rfl⟩ : ∃ k', k = k' + 1 := ⟨k - 1, by omega⟩
    rw [laminaref10_Good.l0, if_neg (by omega), List.drop_eq_nil_of_le (by omega)]
    simp
  | succ r ih =>
    intro i k hi hk
    obtain ⟨k, rfl⟩ : ∃ k', k = k' + 1 := ⟨k - 1, by omega⟩
    have e : wrap64 ((i : Int) + 1) = ((i + 1 : Nat) : Int) := by unfold wrap64; omega
    have hr : rd m i = m[i] := by simp [rd, show i < m.length by omega]
    rw [laminaref10_Good.l0, if_pos (by omega), if_pos (by omega), e, ih (i + 1) k (by omega) (by omega), List.drop_eq_getElem_cons (show i < m.length by omega), hr]
    by_cases h : m[i] > 3
    · rw [if_pos h]
      have : ¬ ∀ x ∈ m[i] :: m.drop (i + 1), x ≤ 3 := fun g => by have := g m[i] (List.mem_cons_self ..); omega
      rw [decide_eq_false this]
    · rw [if_neg h]
      congr 1
      rw [decide_eq_decide]
      constructor
      · intro g x hx
        rcases List.mem_cons.1 hx with rfl | hx
        · omega
        · exact g x hx
      · exact fun g x hx => g x (List.mem_cons_of_mem _ hx)
theorem rgood_f (m : List Int) (k : Nat) (hk : 300 < k) : laminaref10_Good.f k m = some (decide (m.length ≤ 256 ∧ ∀ x ∈ m, x ≤ 3)) := by
  unfold laminaref10_Good.f
  by_cases h : (m.length : Int) > 256
  · rw [if_pos h, decide_eq_false (fun g => by have := g.1; omega)]
  · rw [if_neg h]
    have := rgood_go m (by omega) m.length 0 k (by omega) (by omega)
    simp only [Int.natCast_zero, List.drop_zero] at this
    rw [this]
    congr 1
    rw [decide_eq_decide]
    exact ⟨fun g => ⟨by omega, g⟩, fun g => g.2⟩
theorem pack_bytes (m : List Int) (hm : IsMarks m) : ∀ x ∈ packL m, 0 ≤ x ∧ x < 256 := by
  intro x hx
  have hn := hm.1
  rcases List.mem_cons.1 hx with rfl | hx
  · omega
  rcases List.mem_cons.1 hx with rfl | hx
  · omega
  obtain ⟨q, _, rfl⟩ := List.mem_map.1 hx
  have b0 := mk_rd hm (4 * q)
  have b1 := mk_rd hm (4 * q + 1)
  have b2 := mk_rd hm (4 * q + 2)
  have b3 := mk_rd hm (4 * q + 3)
  unfold quad
  omega
theorem pack_len (m : List Int) : (packL m).length = 2 + (m.length + 3) / 4 := by simp [packL]; omega
def tkP (l : List Int) (k : Nat) : List Int := (List.range k).map (tkV l)
theorem tkP_len (l : List Int) (k : Nat) : (tkP l k).length = k := by simp [tkP]
theorem tkP_marks (l : List Int) (k : Nat) : ∀ x ∈ tkP l k, 0 ≤ x ∧ x ≤ 3 := by
  intro x hx
  obtain ⟨j, _, rfl⟩ := List.mem_map.1 hx
  unfold tkV
  omega

end Go.Proofs.Ytdfkecfmmcdgiaa.Hp
