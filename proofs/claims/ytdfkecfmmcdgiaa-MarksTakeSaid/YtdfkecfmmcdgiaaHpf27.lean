/- Contracts of functions of the given program, and what they lean on: written by this session's own program hprint.py, which lays hand texts into the kit's printer. -/
import Derived.Test.YtdfkecfmmcdgiaaHp0
import Derived.Test.YtdfkecfmmcdgiaaHpatakew
import Derived.Test.YtdfkecfmmcdgiaaHpf24
import Derived.Test.YtdfkecfmmcdgiaaHpartakew
import Derived.Test.YtdfkecfmmcdgiaaHpf26
import Derived.Test.YtdfkecfmmcdgiaaHpapack10
namespace Go.Proofs.Ytdfkecfmmcdgiaa.Hp
open Go.RowKit Go.Proofs.YtdfkecfmmcdgiaaW.PrintWords Go.Proofs.YtdfkecfmmcdgiaaW.PrintLast Go.Proofs.YtdfkecfmmcdgiaaW.PrintMore
attribute [local go_sem] max2_int min2_int max_two min_two max_three min_three max_four min_four   -- for this text's walks alone
set_option linter.unusedVariables false
set_option linter.unusedSimpArgs false

/-! ### laminaref10_Take: function 27 -/
def laminaref10_Take.ok (l0 : List Int) : Prop := 2 ≤ l0.length ∧ (∀ j : Nat, (j : Int) < cntI l0 → 2 + j / 4 < l0.length) ∧ cntI l0 ≤ 256 ∧ packL (tkL l0) = l0
open Classical in
noncomputable def laminaref10_Take.r (l0 : List Int) : List Int × Bool := if laminaref10_Take.ok l0 then (tkL l0, true) else ([], false)
open Classical in
noncomputable def laminaref10_Take.f (l0 : List Int) : Option (List Int × Bool) := if (∀ x ∈ l0, 0 ≤ x ∧ x < 256) ∧ l0.length ≤ 1000000 then some (laminaref10_Take.r l0) else none
set_option maxHeartbeats 8000000 in
set_option maxRecDepth 100000 in
theorem laminaref10_Take.calls0 (A0 : Option Addr) (c0 : Nat) (l0 : List Int) (w : World) (hr0 : Kd.C (Kd.int .u8) w A0 l0.length l0) (hc0 : l0.length ≤ c0) (hb : ∀ x ∈ l0, 0 ≤ x ∧ x < 256) (hmax : l0.length ≤ 1000000) :
    Calls Try.prog 27 #[.slice A0 l0.length c0] w fun e w' => ∃ v0_ : Value, e = .returned (.tuple #[v0_, .bool (laminaref10_Take.r l0).2]) ∧ Kd.R (Kd.int .u8) 5 w' w.heap.size (fun _ => True) v0_ (laminaref10_Take.r l0).1 ∧ Below w.heap.size w w' := by
  by_cases h2 : 2 ≤ l0.length
  case neg =>
    have HE : Aside0 (laminaref10_Take.r l0 = ([], false)) := ⟨by unfold laminaref10_Take.r; rw [if_neg (fun g => h2 g.1)]⟩
    clear hr0 hb
    go_enter Try.func27, Try.ntmps27
    go_wp2
    go_ret2
    rw [HE.out]
    exact ⟨_, rfl, Kd.R_nil _ _ _ _ _, Below.refl _ _⟩
  have HBY := Aside0.mk hb
  obtain ⟨b0, b0'⟩ := rd_bytes hb 0
  obtain ⟨b1, b1'⟩ := rd_bytes hb 1
  simp only [Int.natCast_zero, Int.natCast_one] at b0 b0' b1 b1'
  obtain ⟨ad, e, hx0⟩ := Kd.at_int hr0 0 (by omega) (by omega)
  subst e
  obtain ⟨ad', e', hx1⟩ := Kd.at_int hr0 1 (by omega) (by omega)
  cases e'
  simp only [Int.reduceToNat] at hx0 hx1
  rw [show ad.add 0 = ad from rfl] at hx0
  have hx2 := hx1
  simp [Addr.add] at hx2
  have HR := Aside0.mk hr0
  have p0 : (0 : Int) < l0.length := by omega
  have p1 : (1 : Int) < l0.length := by omega
  have p2 : ¬ (l0.length : Int) < 2 := by omega
  have p3 : 0 < l0.length := by omega
  have p4 : l0 ≠ [] := by intro h; rw [h] at h2; simp at h2
  have p5 : 1 < l0.length := by omega
  have q0 : IntKind.i64.wrap (rd l0 0) = rd l0 0 := IntWalk.i64_in _ (by omega)
  have q1 : IntKind.i64.wrap (rd l0 1) = rd l0 1 := IntWalk.i64_in _ (by omega)
  have q2 : IntKind.i64.wrap (256 * rd l0 1) = 256 * rd l0 1 := IntWalk.i64_in _ (by omega)
  obtain ⟨N, hN⟩ : ∃ N : Nat, cntI l0 = (N : Int) := ⟨(cntI l0).toNat, by unfold cntI; omega⟩
  have hnn : N ≤ 100000 := by unfold cntI at hN; omega
  have q3 : IntKind.i64.wrap (rd l0 0 + 256 * rd l0 1) = (N : Int) := by rw [← hN]; exact IntWalk.i64_in _ (by omega)
  have HN := Aside0.mk hN
  clear hr0 hb hN
  go_enter Try.func27, Try.ntmps27
  go_wp2
  go_quiet (fail)
  clear q0 q1 q2 q3 hx0 hx1 p0 p1
  go_wp2
  go_loopw [5, 6] (fun v5 v6 wr => ∃ k : Nat, k ≤ N ∧ v6 = .int .i64 k ∧ Aside0 (∀ j : Nat, j < k → 2 + j / 4 < l0.length) ∧ Aside0 (Kd.R (Kd.int .u8) 5 wr w.heap.size (fun _ => True) v5 (tkP l0 k)) ∧ Aside0 (Below w.heap.size w wr)) (fun _ v6 _ => N - (intOf v6).toNat)
  case atStart => exact ⟨0, by omega, rfl, ⟨fun j hj => absurd hj (by omega)⟩, ⟨Kd.R_nil _ _ _ _ _⟩, ⟨pw_below_drewN (Below.refl _ _) _⟩⟩
  case round =>
    obtain ⟨k, hk, rfl, HJ, HO, HB⟩ := hrel
    clear hx2 p3 p4 p5 b0 b0' b1 b1'
    by_cases hlt : k < N
    · by_cases hq : 2 + k / 4 < l0.length
      · obtain ⟨ad2, e2, hx⟩ := Kd.at_int HR.out (2 + (k : Int) / 4) (by omega) (by omega)
        cases e2
        rw [show (2 + (k : Int) / 4).toNat = 2 + k / 4 by omega] at hx
        have hblk := World.block_lt_of_cell? w _ hx
        replace hx := (HB.out.cell hblk).trans hx
        have hxb := rd_bytes HBY.out (2 + k / 4)
        rw [show ((2 + k / 4 : Nat) : Int) = 2 + (k : Int) / 4 by omega] at hxb
        obtain ⟨hxb0, hxb1⟩ := hxb
        have h3 : (2 + (k : Int) / 4) < l0.length := by omega
        have h4 : (0 : Int) ≤ 2 + (k : Int) / 4 := by omega
        have h5 : (2 + (k : Int) / 4).toNat = 2 + k / 4 := by omega
        have hkn : (k : Int) < N := by omega
        clear hblk
        generalize hX : rd l0 (2 + (k : Int) / 4) = X at *
        have HX := Aside0.mk hX
        clear hX
        go_wp2
        have hr4 : k % 4 < 4 := by omega
        clear h3 h4 h5
        go_loopw [7, 8] (fun v7 v8 wz => ∃ m : Nat, m ≤ k % 4 ∧ v8 = .int .i64 m ∧ v7 = .int .i64 (X / 4 ^ m) ∧ wz = wr) (fun _ v8 _ => k % 4 - (intOf v8).toNat)
        case atStart => exact ⟨0, by omega, rfl, by simp, rfl⟩
        case round =>
          obtain ⟨m, hm, rfl, rfl, rfl⟩ := hrel
          have hy0 : 0 ≤ X / 4 ^ m := Int.ediv_nonneg hxb0 (Int.le_of_lt (Int.pow_pos (by decide)))
          have hy1 := Int.ediv_le_self (4 ^ m) hxb0
          have hy2 : X / 4 ^ (m + 1) = X / 4 ^ m / 4 := by rw [Int.pow_succ, Int.ediv_ediv_of_nonneg (Int.le_of_lt (Int.pow_pos (by decide)))]
          have HY2 := Aside0.mk hy2
          clear hy2
          by_cases hlm : m < k % 4
          · have hlm2 : (m : Int) < (k : Int) % 4 := by omega
            have HYY := Aside0.mk (show X / 4 ^ m / 4 = X / 4 ^ (m + 1) from HY2.out.symm)
            generalize X / 4 ^ m = y at *
            go_wp2
            exact ⟨⟨m + 1, by omega, by go_num, by rw [HY2.out], trivial⟩, by simp [intOf]; omega⟩
          · obtain rfl : m = k % 4 := by omega
            have hlm2 : ¬ ((k % 4 : Nat) : Int) < (k : Int) % 4 := by omega
            generalize hY : X / 4 ^ (k % 4) = y at *
            have hlm3 : (y % 4) % 256 = y % 4 := by omega
            have hvv : tkV l0 k = y % 4 := by
              unfold tkV
              rw [show ((2 + k / 4 : Nat) : Int) = 2 + (k : Int) / 4 by omega, HX.out, ← hY, Nat.mul_comm, Int.pow_mul]
              rfl
            have HV := Aside0.mk (show tkP l0 (k + 1) = tkP l0 k ++ [y % 4] by unfold tkP; rw [List.range_succ, List.map_append, List.map_singleton, hvv])
            have HL := Aside0.mk (tkP_len l0 k)
            clear hvv hY
            go_wp2_with (first | ((with_reducible refine gate_builtin (b := .append) (xs := #[.tmp 50, .tmp 54]) rfl ?_); at_builtin; refine Kd.R_append (Kd.int .u8) (w0 := w) w.heap.size rfl (.tmp 50) (.tmp 54) 22 5 (.int .u8 0) 1 rfl Try.underlying22 info5 rfl (by decide) (by omega) _ (tkP l0 k) (y % 4) [.int .u8 (y % 4)] (fun _ => True) (fun _ => False) rfl rfl rfl (fun _ h => h.elim) (fun _ _ => trivial) (HO.out) (HB.out) (HB.out.size) ((by have := HL.out; omega)) ?_; intro v9 w9 ho hb hg hat; clear hg hat; have HO9 := Aside0.mk ho; have HB9 := Aside0.mk hb; clear ho hb))
            refine ⟨⟨k + 1, by omega, by go_num, ⟨?_⟩, ⟨by rw [HV.out]; exact HO9.out⟩, HB9⟩, by simp [intOf]; omega⟩
            intro j hj
            by_cases hjk : j < k
            · exact HJ.out j hjk
            · have : j = k := by omega
              subst this
              exact hq
      · have h3 : ¬ (2 + (k : Int) / 4) < l0.length := by omega
        have hkn : (k : Int) < N := by omega
        have HE : Aside0 (laminaref10_Take.r l0 = ([], false)) := ⟨by unfold laminaref10_Take.r; rw [if_neg (fun g => hq (g.2.1 k (by rw [HN.out]; exact hkn)))]⟩
        have HL := tkP_len l0 k
        obtain ⟨A5, c5, rfl, -⟩ := Kd.R_reads HO.out
        have HB2 := HB
        rw [HL] at HO ⊢
        have hne : ((k : Int) != (N : Int)) = true := by rw [bne_iff_ne]; omega
        clear HL HB hq
        go_wp2
        go_quiet (fail)
        go_wp2
        go_ret2
        rw [HE.out]
        exact ⟨_, rfl, Kd.R_nil _ _ _ _ _, pw_below_drewN HB2.out _⟩
    · obtain rfl : k = N := by omega
      have HL := tkP_len l0 k
      have hL2 : tkL l0 = tkP l0 k := by unfold tkL tkP; rw [HN.out, Int.toNat_natCast]
      obtain ⟨A5, c5, rfl, -⟩ := Kd.R_reads HO.out
      obtain ⟨-, hc5, hC5⟩ := Kd.R_reads' HO.out
      have HGD : ∀ W, Kd.C (Kd.int .u8) W A5 (tkP l0 k).length (tkP l0 k) → Calls Try.prog 24 #[.slice A5 k c5] W fun e w' => e = .returned (.bool (decide (k ≤ 256))) ∧ Drawn0 W w' := by
        intro W hC
        have hg := rgood_f (tkP l0 k) 400 (by omega)
        rw [HL, show decide (k ≤ 256 ∧ ∀ x ∈ tkP l0 k, x ≤ 3) = decide (k ≤ 256) from by rw [decide_eq_decide]; exact ⟨fun g => g.1, fun g => ⟨g, fun x hx => (tkP_marks l0 k x hx).2⟩⟩] at hg
        have := laminaref10_Good.calls 400 A5 c5 (tkP l0 k) _ W hC hc5 hg
        rw [HL] at this
        exact this
      have HC5 := Aside0.mk hC5
      have HO5 := HO
      have HB2 := HB
      rw [HL] at HO ⊢
      have hne : ((k : Int) != (k : Int)) = false := by rw [bne_eq_false_iff_eq]
      by_cases hgood : k ≤ 256
      · rw [decide_eq_true hgood] at HGD
        have hm : IsMarks (tkP l0 k) := ⟨by omega, tkP_marks l0 k⟩
        have HPUT : ∀ W, Kd.C (Kd.int .u8) W A5 (tkP l0 k).length (tkP l0 k) → Calls Try.prog 26 #[.slice A5 k c5] W fun e w' => ∃ v0_ : Value, e = .returned (v0_) ∧ Kd.R (Kd.int .u8) 5 w' W.heap.size (fun _ => True) v0_ (packL (tkP l0 k)) ∧ Below W.heap.size W w' := by
          intro W hC
          have := laminaref10_Put.calls 700 A5 c5 (tkP l0 k) _ W hC hc5 (rput_f _ hm 700 (by omega))
          rw [HL] at this
          exact this
        have hpb := pack_bytes (tkP l0 k) hm
        have hiff : packL (tkP l0 k) = l0 ↔ strOfNums (packL (tkP l0 k)) = strOfNums l0 := ⟨fun h => by rw [h], fun h => str_inj hpb HBY.out h⟩
        have CV := fun W (h : Kd.C (Kd.int .u8) W (some ad) l0.length l0) => Kd.C_string (P := Try.prog) (A := some ad) (c := c0) Try.underlying22 Try.underlying5 Try.underlying9 h
        have CV2 := fun W (A : Option Addr) (n c : Nat) (h : Kd.C (Kd.int .u8) W A n (packL (tkP l0 k))) => Kd.C_string (P := Try.prog) (A := A) (c := c) Try.underlying22 Try.underlying5 Try.underlying9 h
        have HRr := Aside0.mk (Kd.C_below HR.out HB2.out)
        by_cases hp : packL (tkP l0 k) = l0
        · have HE : Aside0 (laminaref10_Take.r l0 = (tkP l0 k, true)) := ⟨by unfold laminaref10_Take.r; rw [if_pos ⟨h2, fun j hj => HJ.out j (by rw [HN.out] at hj; omega), by rw [HN.out]; omega, by rw [hL2]; exact hp⟩, hL2]⟩
          have hs := hiff.1 hp
          have CV3 := Aside0.mk CV2
          have CV4 := Aside0.mk CV
          clear HL HB hC5 hlt hL2 hgood hk hp hiff hm hpb CV CV2 hc5
          generalize packL (tkP l0 k) = P at *
          generalize strOfNums P = s1 at *
          subst hs
          go_wp2
          go_region_with (first | ((go_at_call 24; refine (HGD _ (Kd.C_drew HC5.out)).mono ?_; rintro e w' ⟨rfl, ⟨ng, rfl⟩⟩; have hcvB := CV4.out _ (Kd.C_drewN HRr.out (1 + ng)))) | ((go_at_call 26; refine (HPUT _ (Kd.C_drewN HC5.out _)).mono ?_; rintro e w7 ⟨v7, rfl, ho7, hb7⟩; obtain ⟨A7, c7, rfl, -⟩ := Kd.R_reads ho7; have hcv := CV3.out _ _ _ c7 (Kd.R_reads' ho7).2.2; have HRP := Aside0.mk (Kd.C_below (Kd.C_drewN HRr.out _) hb7); have hcvC := CV4.out _ HRP.out; have HB7 := Aside0.mk hb7; clear ho7 hb7)))
          all_goals go_wp2
          all_goals go_ret2
          all_goals rw [HE.out]
          all_goals exact ⟨_, rfl, Kd.R_below (Kd.R_drewN HO.out _) HB7.out, below_step HB2.out (below_step (pw_below_drewN (Below.refl _ _) _) HB7.out)⟩
        · have HE : Aside0 (laminaref10_Take.r l0 = ([], false)) := ⟨by unfold laminaref10_Take.r; rw [if_neg (fun g => hp (by have := g.2.2.2; rw [hL2] at this; exact this))]⟩
          have hs : ((strOfNums (packL (tkP l0 k))).toList == (strOfNums l0).toList) = false := by
            rw [beq_eq_false_iff_ne]
            intro h
            rw [ByteArray.toList_eq, ByteArray.toList_eq] at h
            exact hp (hiff.2 (Go.WideShapes.bytes_inj h))
          have CV3 := Aside0.mk CV2
          have CV4 := Aside0.mk CV
          clear HL HB hC5 hlt hL2 hgood hk hp hiff hm hpb CV CV2 hc5
          generalize packL (tkP l0 k) = P at *
          generalize strOfNums P = s1 at *
          generalize strOfNums l0 = s2 at *
          go_wp2
          go_region_with (first | ((go_at_call 24; refine (HGD _ (Kd.C_drew HC5.out)).mono ?_; rintro e w' ⟨rfl, ⟨ng, rfl⟩⟩; have hcvB := CV4.out _ (Kd.C_drewN HRr.out (1 + ng)))) | ((go_at_call 26; refine (HPUT _ (Kd.C_drewN HC5.out _)).mono ?_; rintro e w7 ⟨v7, rfl, ho7, hb7⟩; obtain ⟨A7, c7, rfl, -⟩ := Kd.R_reads ho7; have hcv := CV3.out _ _ _ c7 (Kd.R_reads' ho7).2.2; have HRP := Aside0.mk (Kd.C_below (Kd.C_drewN HRr.out _) hb7); have hcvC := CV4.out _ HRP.out; have HB7 := Aside0.mk hb7; clear ho7 hb7)))
          all_goals go_wp2
          all_goals go_ret2
          all_goals rw [HE.out]
          all_goals exact ⟨_, rfl, Kd.R_nil _ _ _ _ _, below_step HB2.out (below_step (pw_below_drewN (Below.refl _ _) _) HB7.out)⟩
      · have HE : Aside0 (laminaref10_Take.r l0 = ([], false)) := ⟨by unfold laminaref10_Take.r; rw [if_neg (fun g => hgood (by have := g.2.2.1; rw [HN.out] at this; omega))]⟩
        rw [decide_eq_false hgood] at HGD
        clear HL HB hC5 hlt hL2 hgood hk
        go_wp2
        go_quiet ((go_at_call 24; exact Calls.quiet_of (v := .bool false) ((HGD _ (Kd.C_drewN HC5.out _)).mono (fun e w' h => ⟨h.1, by obtain ⟨_, m, hm⟩ := h; exact ⟨m, hm⟩⟩))))
        go_wp2
        go_ret2
        rw [HE.out]
        exact ⟨_, rfl, Kd.R_nil _ _ _ _ _, pw_below_drewN HB2.out _⟩
theorem laminaref10_Take.calls (A0 : Option Addr) (c0 : Nat) (l0 : List Int) (r1 : List Int) (r2 : Bool) (w : World) (hr0 : Kd.C (Kd.int .u8) w A0 l0.length l0) (hc0 : l0.length ≤ c0) (h : laminaref10_Take.f l0 = some (r1, r2)) :
    Calls Try.prog 27 #[.slice A0 l0.length c0] w fun e w' => ∃ v0_ : Value, e = .returned (.tuple #[v0_, .bool r2]) ∧ Kd.R (Kd.int .u8) 5 w' w.heap.size (fun _ => True) v0_ r1 ∧ Below w.heap.size w w' := by
  unfold laminaref10_Take.f at h
  split at h
  case isFalse => cases h
  rename_i hp
  replace h := Option.some.inj h
  have := laminaref10_Take.calls0 A0 c0 l0 w hr0 hc0 hp.1 hp.2
  rw [h] at this
  exact this

end Go.Proofs.Ytdfkecfmmcdgiaa.Hp
