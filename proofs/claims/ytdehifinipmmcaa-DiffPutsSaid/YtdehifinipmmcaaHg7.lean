/- Contracts of functions of the given program, and what they lean on: written by this session's own program, out of hand texts laid into the kit's printer. -/
import Derived.Test.YtdehifinipmmcaaHp0
import Derived.Test.YtdehifinipmmcaaHg1
import Derived.Test.YtdehifinipmmcaaHg5
import Derived.Test.YtdehifinipmmcaaHg6
namespace Go.Proofs.Ytdehifinipmmcaa.Hp
open Go.RowKit Go.Proofs.YtdehifinipmmcaaW.PrintWords Go.Proofs.YtdehifinipmmcaaW.PrintLast Go.Proofs.YtdehifinipmmcaaW.PrintMore
attribute [local go_sem] max2_int min2_int max_two min_two max_three min_three max_four min_four   -- for this text's walks alone
set_option linter.unusedVariables false
set_option linter.unusedSimpArgs false

/-! ### wire_Reader_Left: function 46 -/
theorem wire_Reader_Left.calls (S : Nat → Prop) (h : Value) (l : List Int) (bad : Bool) (w : World) (hr : Rd w S h l bad) :
    Calls Try.prog 46 #[h] w fun e w' => e = .returned (.int .i64 l.length) ∧ w = w' := by
  rcases hr with ⟨rfl, rfl, rfl⟩ | ⟨p, A, c, rfl, x, y⟩
  · skip
    go_enter Try.func46, Try.ntmps46
    go_wp2
    go_ret
    exact ⟨rfl, rfl⟩
  · have h0 : w.cell? ⟨p, 0, none⟩ = some (.slice A l.length c) := by rw [cell_of x.str]; rfl
    have hm := x.row.row.2.1
    clear x y
    go_enter Try.func46, Try.ntmps46
    go_wp2
    go_ret
    exact ⟨rfl, rfl⟩

/-! ### wire_Reader_Byte: function 49 -/
theorem wire_Reader_Byte.calls (S : Nat → Prop) (h : Value) (l : List Int) (bad : Bool) (w : World) (hr : Rd w S h l bad) :
    Calls Try.prog 49 #[h] w fun e w' => e = .returned (.int .u8 (byteS l bad).1) ∧ RdTo w w' S h (byteS l bad).2.1 (byteS l bad).2.2 := by
  rcases htk : tkS 1 l bad with _ | ⟨b, r⟩
  · have hb : byteS l bad = (0, [], true) := by unfold byteS; rw [htk]
    have HT := Aside0.mk (fun W (q : Rd W S h l bad) => wire_Reader_take.no S h l bad 1 W q htk)
    rw [hb]
    have HR := Aside0.mk hr
    clear htk hb hr
    go_enter Try.func49, Try.ntmps49
    go_wp2_with fail
    refine (HT.out _ HR.out).mono ?_
    rintro e w1 ⟨rfl, hx⟩
    go_wp2
    go_ret
    exact ⟨rfl, hx⟩
  · have hb : byteS l bad = (rd b 0, r, false) := by unfold byteS; rw [htk]
    have HT := Aside0.mk (fun W (q : Rd W S h l bad) => take_yes S h l bad 1 b r W q htk)
    have hbl : b.length = 1 := by
      obtain ⟨_, q1, q2, rfl, rfl⟩ := tkS_some htk
      rw [List.length_take]; omega
    rw [hb]
    have HBL := Aside0.mk hbl
    have HR := Aside0.mk hr
    have hb0 : 0 < b.length := by omega
    clear htk hb hr hbl
    go_enter Try.func49, Try.ntmps49
    go_wp2_with fail
    refine (HT.out _ HR.out).mono ?_
    rintro e w1 ⟨A, rfl, hx⟩
    have HX := Aside0.mk hx
    obtain ⟨ad, e, hc⟩ := C_cells hx.row.row hb0
    subst e
    have hc0 : w1.cell? ad = some (.int .u8 (rd b 0)) := by have := hc 0 hb0; rw [add_zero_] at this; exact this
    clear hc hx
    go_wp2
    go_ret
    exact ⟨rfl, HX.out.rdto⟩

/-! ### wire_Reader_Flag: function 47 -/
theorem wire_Reader_Flag.calls (S : Nat → Prop) (h : Value) (l : List Int) (bad : Bool) (w : World) (hr : Rd w S h l bad) :
    Calls Try.prog 47 #[h] w fun e w' => e = .returned (.bool (flagS l bad).1) ∧ RdTo w w' S h (flagS l bad).2.1 (flagS l bad).2.2 := by
  have HB := Aside0.mk (fun W (q : Rd W S h l bad) => wire_Reader_Byte.calls S h l bad W q)
  have hf : flagS l bad = if (byteS l bad).1 > 1 then (false, [], true) else (decide ((byteS l bad).1 = 1), (byteS l bad).2.1, (byteS l bad).2.2) := rfl
  have hz : (byteS l bad).1 > 1 → ∀ W, ¬ Rd W S (.pointer none) l bad := by
    intro hg W q
    rcases q with ⟨_, rfl, rfl⟩ | ⟨p, A, c, e, _⟩
    · exact absurd hg (by decide)
    · cases e
  have HR := Aside0.mk hr
  have HZ := Aside0.mk hz
  generalize byteS l bad = y at *
  obtain ⟨x, r, bd⟩ := y
  rw [hf]
  clear hf hr hz
  by_cases hg : x > 1
  · rw [if_pos hg]
    go_enter Try.func47, Try.ntmps47
    go_wp2_with fail
    refine (HB.out _ HR.out).mono ?_
    rintro e w1 ⟨rfl, hx⟩
    have HX := Aside0.mk hx
    rcases hx.rd with ⟨hp, _⟩ | ⟨p, A, c, hp, q1, q2⟩
    · subst hp
      exact absurd HR.out (HZ.out hg _)
    · have Q := Aside0.mk q1
      subst hp
      clear hx q1 q2
      go_wp2_with fail
      refine (wire_Reader_fail.calls S p A c _ _ _ Q.out).mono ?_
      rintro e w2 ⟨rfl, hy⟩
      have HY := Aside0.mk (HX.out.then_ hy)
      clear hy
      go_wp2
      go_ret
      exact ⟨rfl, HY.out⟩
  · rw [if_neg hg]
    by_cases h1 : x = 1
    · subst h1
      go_enter Try.func47, Try.ntmps47
      go_wp2_with fail
      refine (HB.out _ HR.out).mono ?_
      rintro e w1 ⟨rfl, hx⟩
      have HX := Aside0.mk hx
      clear hx
      go_wp2
      go_ret
      exact ⟨rfl, HX.out⟩
    · have h2 : decide (x = 1) = false := decide_eq_false h1
      have h3 : (x == 1) = false := by simpa using h1
      rw [h2]
      go_enter Try.func47, Try.ntmps47
      go_wp2_with fail
      refine (HB.out _ HR.out).mono ?_
      rintro e w1 ⟨rfl, hx⟩
      have HX := Aside0.mk hx
      clear hx
      go_wp2
      go_ret
      exact ⟨rfl, HX.out⟩

/-! ### laminaref03_Num: function 53 -/
def laminaref03_Num.l0 : Nat → Int → List Int → Int → Option (List Int)
  | 0, _, _, _ => none
  | k + 1, x3, x4, x5 => if x5 < 8 then (if x4.length < 140737488355328 then (laminaref03_Num.l0 k (IntKind.u64.wrap (Int.tdiv x3 256)) (x4 ++ [(Int.tmod x3 256) % 256]) (wrap64 (x5 + 1))) else (none)) else (some x4)
def laminaref03_Num.f (k : Nat) (a0 : Int) : Option (List Int) := laminaref03_Num.l0 k (IntKind.u64.wrap (a0)) ([] : List Int) 0
theorem laminaref03_Num.mono_l : ∀ k, (∀ y0 y1 y2, LeO (laminaref03_Num.l0 k y0 y1 y2) (laminaref03_Num.l0 (k + 1) y0 y1 y2))
  | 0 => fun _ _ _ r h => by simp [laminaref03_Num.l0] at h
  | k + 1 => by
    have ih0 := laminaref03_Num.mono_l k
    · intro y0 y1 y2
      unfold laminaref03_Num.l0
      repeat' first
      | (with_reducible exact ih0 _ _ _)
      | (with_reducible exact LeO.refl _)
      | (with_reducible exact LeO.none _)
      | (with_reducible refine LeO.ite ?_ ?_)
      | (with_reducible refine LeO.bind ?_ (fun _ => ?_))
      | exact ih0 _ _ _
      | exact LeO.none _
      | refine LeO.ite ?_ ?_
      | refine LeO.bind ?_ (fun _ => ?_)
theorem laminaref03_Num.mono : ∀ a0 k, LeO (laminaref03_Num.f k a0) (laminaref03_Num.f (k + 1) a0) := by
  intro a0 k
  have ih0 := laminaref03_Num.mono_l k
  unfold laminaref03_Num.f
  repeat' first
      | (with_reducible exact ih0 _ _ _)
      | (with_reducible exact LeO.refl _)
      | (with_reducible exact LeO.none _)
      | (with_reducible refine LeO.ite ?_ ?_)
      | (with_reducible refine LeO.bind ?_ (fun _ => ?_))
      | exact ih0 _ _ _
      | exact LeO.none _
      | refine LeO.ite ?_ ?_
      | refine LeO.bind ?_ (fun _ => ?_)
set_option maxHeartbeats 8000000 in
set_option maxRecDepth 100000 in
theorem laminaref03_Num.calls (k : Nat) (a0 : Int) (r : List Int) (w : World) (h : laminaref03_Num.f k a0 = some r) :
    Calls Try.prog 53 #[.int .i64 a0] w fun e w' => ∃ v0_ : Value, e = .returned (v0_) ∧ Kd.R (Kd.int .u8) 5 w' w.heap.size (fun _ => True) v0_ r ∧ Below w.heap.size w w' := by
  have HB := Aside0.mk (Below.refl w.heap.size w)
  have H : (laminaref03_Num.l0 k (IntKind.u64.wrap (a0)) ([] : List Int) 0) = some r := h
  clear h
  have H' := Aside0.mk H
  clear H
  go_enter Try.func53, Try.ntmps53
  go_wp2
  go_loopg [3, 4, 5] k (fun kq v3 v4 v5 w' => ∃ (x3_1 : Int) (x4_1 : List Int) (x5_1 : Int), v3 = .int .u64 x3_1 ∧ v5 = .int .i64 x5_1 ∧ Aside0 (laminaref03_Num.l0 kq x3_1 x4_1 x5_1 = some r) ∧ Aside0 (kq ≤ k) ∧ Aside0 (Kd.R (Kd.int .u8) 5 w' w.heap.size (fun _ => True) v4 x4_1) ∧ Aside0 (Below w.heap.size w w'))
  case atStart => exact ⟨(IntKind.u64.wrap (a0)), (([] : List Int)), (0), (by first | rfl | (simp; done) | (simp [*]; done)), (by first | rfl | (simp; done) | (simp [*]; done)), H', ⟨Nat.le_refl _⟩, ⟨by first | exact Kd.R_nil _ _ _ _ _ | exact Kd.N_nil _ _ _ _ _ | exact Kd.V_nil _ _ _ _ _ | exact Kd.Q_nil _ _ _ _ _ | exact Kd.S_nil _ _ _ _ _⟩, ⟨by repeat (first | (with_reducible first | exact HB.out | apply below_alloc | apply pw_below_drewN | apply below_drew1) | exact HB.out)⟩⟩
  case round =>
    clear H'
    obtain ⟨x3_1, x4_1, x5_1, rfl, rfl, HA, HK1, HO_4, HB⟩ := hrel
    cases gk with
    | zero => exact absurd HA.out (by simp [laminaref03_Num.l0])
    | succ k1 =>
      have H := HA.out
      clear HA
      simp only [laminaref03_Num.l0] at H
      by_cases c2 : x5_1 < 8
      · rw [if_pos c2] at H
        have c2b0 : decide (x5_1 < 8) = true := decide_eq_true c2
        clear c2
        by_cases c3 : x4_1.length < 140737488355328
        · rw [if_pos c3] at H
          have LMc3 := Aside0.mk c3
          clear c3
          obtain ⟨y151, hy151⟩ : ∃ y_ : List Int, y_ = (x4_1 ++ [(Int.tmod x3_1 256) % 256]) := ⟨_, rfl⟩
          replace H : (laminaref03_Num.l0 k1 (IntKind.u64.wrap (Int.tdiv x3_1 256)) y151 (wrap64 (x5_1 + 1))) = some r := by first | (rw [hy151]; with_reducible exact H) | (have H2_ := (Option.bind_some _ _).symm.trans H; rw [hy151]; with_reducible exact H2_) | (have H2_ := (Option.bind_some _ _).symm.trans H; with_reducible exact H2_) | with_reducible exact H | (rw [hy151]; exact H) | exact H
          have Ny151 := Aside0.mk hy151
          clear hy151
          have H' := Aside0.mk H
          clear H
          go_wp2_with (first | ((with_reducible refine gate_builtin (b := .append) (xs := #[.tmp 12, .tmp 16]) rfl ?_); at_builtin; refine Kd.R_append (Kd.int .u8) (w0 := w) w.heap.size rfl (.tmp 12) (.tmp 16) 25 5 (.int .u8 0) 1 rfl Try.underlying25 info5 rfl (by decide) (by omega) u4 x4_1 ((Int.tmod x3_1 256) % 256) [.int .u8 ((Int.tmod x3_1 256) % 256)] (fun _ => True) (fun _ => False) rfl rfl ?aP (fun _ hk => hk.elim) ?aF ?aO ?aB ?aS ?aL ?_; (case aP => exact rfl); (case aB => exact (by repeat (first | (with_reducible first | exact HB.out | apply below_alloc | apply pw_below_drewN | apply below_drew1) | exact HB.out))); (case aF => exact (fun _ _ => trivial)); (case aO => exact (by (with_reducible repeat (first | apply Kd.R_alloc | apply Kd.R_drewN | apply Kd.R_drew)); exact HO_4.out)); (case aS => exact (below_size (by repeat (first | (with_reducible first | exact HB.out | apply below_alloc | apply pw_below_drewN | apply below_drew1) | exact HB.out)))); (case aL => have := LMc3.out; omega); intro v152 w4 ho hb hg hat; rw [← Ny151.out] at ho; have n0_ := Aside0.mk (hb); have n1_ := Aside0.mk (ho); clear HB; clear HO_4; have HB := n0_; have HO153 := n1_; clear n0_ n1_; clear ho hb hg hat))
          go_roundg k1
          case measure => have := HK1.out; omega
          case rel => exact ⟨(IntKind.u64.wrap (Int.tdiv x3_1 256)), (y151), (wrap64 (x5_1 + 1)), (by first | rfl | (simp; done) | (simp [*]; done)), (by first | rfl | (simp; done) | (simp [*]; done)), H', ⟨by have := HK1.out; omega⟩, ⟨by (with_reducible repeat (first | apply Kd.R_alloc | apply Kd.R_drewN | apply Kd.R_drew)); exact HO153.out⟩, ⟨by repeat (first | (with_reducible first | exact HB.out | apply below_alloc | apply pw_below_drewN | apply below_drew1) | exact HB.out)⟩⟩
        · rw [if_neg c3] at H
          exact absurd H (by simp)
      · rw [if_neg c2] at H
        have c2b0 : decide (x5_1 < 8) = false := decide_eq_false c2
        clear c2
        obtain rfl := Option.some.inj H
        go_wp2
        go_ret
        exact ⟨_, by first | rfl | (simp [errW_none, errW_some] <;> rfl) | (simp [*, errW_none, errW_some] <;> rfl), by (with_reducible repeat (first | apply Kd.R_alloc | apply Kd.R_drewN | apply Kd.R_drew)); exact HO_4.out, by repeat (first | (with_reducible first | exact HB.out | apply below_alloc | apply pw_below_drewN | apply below_drew1) | exact HB.out)⟩

-- AUX rnumw
theorem byte_eq (n : Int) : ∀ i < 8, ((n % 18446744073709551616) / 256 ^ i) % 256 = n / 2 ^ (8 * i) % 256 := by
  intro i hi
  obtain rfl | rfl | rfl | rfl | rfl | rfl | rfl | rfl : i = 0 ∨ i = 1 ∨ i = 2 ∨ i = 3 ∨ i = 4 ∨ i = 5 ∨ i = 6 ∨ i = 7 := by omega
  all_goals (simp only [Nat.mul_zero, Int.pow_zero, show (256 : Int) ^ 1 = 256 by decide, show (256 : Int) ^ 2 = 65536 by decide, show (256 : Int) ^ 3 = 16777216 by decide, show (256 : Int) ^ 4 = 4294967296 by decide, show (256 : Int) ^ 5 = 1099511627776 by decide, show (256 : Int) ^ 6 = 281474976710656 by decide, show (256 : Int) ^ 7 = 72057594037927936 by decide, show (2 : Int) ^ (8 * 1) = 256 by decide, show (2 : Int) ^ (8 * 2) = 65536 by decide, show (2 : Int) ^ (8 * 3) = 16777216 by decide, show (2 : Int) ^ (8 * 4) = 4294967296 by decide, show (2 : Int) ^ (8 * 5) = 1099511627776 by decide, show (2 : Int) ^ (8 * 6) = 281474976710656 by decide, show (2 : Int) ^ (8 * 7) = 72057594037927936 by decide]; omega)
theorem rnum_go (n : Int) : ∀ (r i k : Nat), i + r = 8 → r < k → laminaref03_Num.l0 k ((n % 18446744073709551616) / 256 ^ i) ((List.range i).map fun j => n / 2 ^ (8 * j) % 256) i = some (numL n) := by
  intro r
  induction r with
  | zero =>
    intro i k hi hk
    obtain ⟨k, rfl⟩ : ∃ k', k = k' + 1 := ⟨k - 1, by omega⟩
    rw [laminaref03_Num.l0, if_neg (by omega)]
    obtain rfl : i = 8 := by omega
    rfl
  | succ r ih =>
    intro i k hi hk
    obtain ⟨k, rfl⟩ : ∃ k', k = k' + 1 := ⟨k - 1, by omega⟩
    have h := ih (i + 1) k (by omega) (by omega)
    have e : wrap64 ((i : Int) + 1) = ((i + 1 : Nat) : Int) := by unfold wrap64; omega
    have hP : (0 : Int) < 256 ^ i := Int.pow_pos (by decide)
    have h0 : 0 ≤ (n % 18446744073709551616) / 256 ^ i := Int.ediv_nonneg (by omega) (by omega)
    have h1 : (n % 18446744073709551616) / 256 ^ i ≤ n % 18446744073709551616 := Int.ediv_le_self _ (by omega)
    have hb := byte_eq n i (by omega)
    have hdd : (n % 18446744073709551616) / 256 ^ (i + 1) = (n % 18446744073709551616) / 256 ^ i / 256 := by
      rw [Int.pow_succ, ← Int.ediv_ediv_of_nonneg (by omega)]
    rw [hdd] at h
    generalize (n % 18446744073709551616) / 256 ^ i = u at *
    rw [laminaref03_Num.l0, if_pos (by omega), if_pos (by simp; omega), e]
    rw [Int.tdiv_eq_ediv_of_nonneg h0, Int.tmod_eq_emod_of_nonneg h0, IntWalk.u64_in _ (by omega), show u % 256 % 256 = n / 2 ^ (8 * i) % 256 by omega]
    rw [List.range_succ, List.map_append] at h
    exact h
theorem rnum_f (n : Int) (k : Nat) (hk : 8 < k) : laminaref03_Num.f k n = some (numL n) := by
  unfold laminaref03_Num.f
  have h := rnum_go n 8 0 k (by omega) hk
  have hw : IntKind.u64.wrap n = n % 18446744073709551616 := by
    simp only [IntKind.wrap, IntKind.bits, IntKind.signed, Bool.false_and, Bool.false_eq_true, if_false]
    rfl
  rw [hw]
  simpa using h

/-! ### laminaref03_Bytes: function 52 -/
def laminaref03_Bytes.f (k : Nat) (l0 : List Int) : Option (List Int) := (laminaref03_Num.f k (l0.length : Int)).bind fun t154 => (if t154.length + l0.length < 140737488355328 then (some (t154 ++ l0)) else (none))
theorem laminaref03_Bytes.mono : ∀ a0 k, LeO (laminaref03_Bytes.f k a0) (laminaref03_Bytes.f (k + 1) a0) := by
  intro a0 k
  unfold laminaref03_Bytes.f
  repeat' first
      | (with_reducible exact laminaref03_Num.mono _ _)
      | (with_reducible exact LeO.refl _)
      | (with_reducible exact LeO.none _)
      | (with_reducible refine LeO.ite ?_ ?_)
      | (with_reducible refine LeO.bind ?_ (fun _ => ?_))
      | exact laminaref03_Num.mono _ _
      | exact LeO.none _
      | refine LeO.ite ?_ ?_
      | refine LeO.bind ?_ (fun _ => ?_)
set_option maxHeartbeats 8000000 in
set_option maxRecDepth 100000 in
theorem laminaref03_Bytes.calls (k : Nat) (A0 : Option Addr) (c0 : Nat) (l0 : List Int) (r : List Int) (w : World) (hr0 : Kd.C (Kd.int .u8) w A0 l0.length l0) (hc0 : l0.length ≤ c0) (h : laminaref03_Bytes.f k l0 = some r) :
    Calls Try.prog 52 #[.slice A0 l0.length c0] w fun e w' => ∃ v0_ : Value, e = .returned (v0_) ∧ Kd.R (Kd.int .u8) 5 w' w.heap.size (fun _ => True) v0_ r ∧ Below w.heap.size w w' := by
  have HR0 := Aside0.mk hr0
  have HC0 := Aside0.mk hc0
  clear hr0 hc0
  have HB := Aside0.mk (Below.refl w.heap.size w)
  have H : ((laminaref03_Num.f k (l0.length : Int)).bind fun t154 => (if t154.length + l0.length < 140737488355328 then (some (t154 ++ l0)) else (none))) = some r := h
  clear h
  replace H := Option.bind_eq_some_iff.mp H
  obtain ⟨t154, A20, H⟩ := H
  replace H : (if t154.length + l0.length < 140737488355328 then (some (t154 ++ l0)) else (none)) = some r := H
  have A2 := Aside0.mk A20
  clear A20
  by_cases c3 : t154.length + l0.length < 140737488355328
  · rw [if_pos c3] at H
    have LMc3 := Aside0.mk c3
    clear c3
    obtain ⟨y157, hy157⟩ : ∃ y_ : List Int, y_ = (t154 ++ l0) := ⟨_, rfl⟩
    replace H : (some y157) = some r := by first | (rw [hy157]; with_reducible exact H) | (have H2_ := (Option.bind_some _ _).symm.trans H; rw [hy157]; with_reducible exact H2_) | (have H2_ := (Option.bind_some _ _).symm.trans H; with_reducible exact H2_) | with_reducible exact H | (rw [hy157]; exact H) | exact H
    have Ny157 := Aside0.mk hy157
    clear hy157
    obtain rfl := Option.some.inj H
    go_enter Try.func52, Try.ntmps52
    go_wp2_with (first | ((with_reducible refine gate_callee (f := 53) rfl ?_); refine goesL_ (some 5) rfl rfl Try.func53 (by kernel_rfl) rfl #[.int .i64 (l0.length : Int)] rfl (by (try simp only [List.map_toArray, List.map_cons, List.map_nil]); first | done | rfl | (simp only [List.length_drop, List.length_take]; rfl)) ?_; (with_reducible refine (laminaref03_Num.calls k (l0.length : Int) t154 _ A2.out).mono ?_); rintro e w4 ⟨v155, rfl, ho0, hb⟩; refine ⟨_, rfl, ?_⟩; have n0_ := Aside0.mk (Kd.R_lower ho0 (below_size (by repeat (first | (with_reducible first | exact HB.out | apply below_alloc | apply pw_below_drewN | apply below_drew1) | exact HB.out)))); have n1_ := Aside0.mk (below_step (by repeat (first | (with_reducible first | exact HB.out | apply below_alloc | apply pw_below_drewN | apply below_drew1) | exact HB.out)) hb); clear HB; have HO156 := n0_; have HB := n1_; clear n0_ n1_; (try clear hb); (try clear hb2); (try clear hk); (try clear hi); (try clear ho0)) | ((with_reducible refine gate_builtin (b := .append) (xs := #[.tmp 5, .tmp 6]) rfl ?_); at_builtin; refine Kd.R_append_rows (Kd.int .u8) (w0 := w) w.heap.size rfl (.tmp 5) (.tmp 6) 25 5 (.int .u8 0) 1 rfl Try.underlying25 info5 rfl (by decide) (by omega) v155 t154 l0 _ _ _ (fun _ => True) (fun _ => False) rfl rfl ?aO ?aR (fun _ _ h => h) (fun _ h => h.elim) ?aF ?aB ?aS ?aL ?_; (case aR => repeat (first | exact (Kd.C_below HR0.out HB.out) | (with_reducible refine Kd.C_alloc ?_ _) | (with_reducible refine Kd.C_drewN ?_ _) | (with_reducible refine Kd.C_drew ?_))); (case aB => exact (by repeat (first | (with_reducible first | exact HB.out | apply below_alloc | apply pw_below_drewN | apply below_drew1) | exact HB.out))); (case aF => exact (fun _ _ => trivial)); (case aO => exact (by (with_reducible repeat (first | apply Kd.R_alloc | apply Kd.R_drewN | apply Kd.R_drew)); exact HO156.out)); (case aS => exact (below_size (by repeat (first | (with_reducible first | exact HB.out | apply below_alloc | apply pw_below_drewN | apply below_drew1) | exact HB.out)))); (case aL => have := LMc3.out; omega); intro v158 w5 ho hb hg hat; rw [← Ny157.out] at ho; have n0_ := Aside0.mk (hb); have n1_ := Aside0.mk (ho); clear HB; clear HO156; have HB := n0_; have HO159 := n1_; clear n0_ n1_; clear ho hb hg hat))
    go_ret
    exact ⟨_, by first | rfl | (simp [errW_none, errW_some] <;> rfl) | (simp [*, errW_none, errW_some] <;> rfl), by (with_reducible repeat (first | apply Kd.R_alloc | apply Kd.R_drewN | apply Kd.R_drew)); exact HO159.out, by repeat (first | (with_reducible first | exact HB.out | apply below_alloc | apply pw_below_drewN | apply below_drew1) | exact HB.out)⟩
  · rw [if_neg c3] at H
    exact absurd H (by simp)

-- AUX rbytesw
theorem rbytes_f (b : List Int) (hl : b.length ≤ 1000000) (k : Nat) (hk : 8 < k) : laminaref03_Bytes.f k b = some (numL b.length ++ b) := by
  unfold laminaref03_Bytes.f
  rw [rnum_f _ k hk, Option.bind_some, if_pos (by rw [numL_len]; omega)]

/-! ### laminaref03_Reader_Take: function 66 -/
theorem laminaref03_Reader_Take.no (S : Nat → Prop) (q : Nat) (l : List Int) (bad : Bool) (n : Int) (w : World) (hr : Rm w S q l bad) (hn : tkS n l bad = none) :
    Calls Try.prog 66 #[.pointer (some ⟨q, 0, none⟩), .int .i64 n] w fun e w' => e = .returned (.slice none 0 0) ∧ RmTo w w' S q [] true := by
  have hc := tkS_none hn
  clear hn
  obtain ⟨A, c, x⟩ := hr
  have hb := x.str
  have h0 : w.cell? ⟨q, 0, none⟩ = some (.slice A l.length c) := by rw [cell_of hb]; rfl
  have h1 : w.cell? ⟨q, 1, none⟩ = some (.bool bad) := by rw [cell_of hb]; rfl
  have f0 := frozen_of hb 0
  have f1 := frozen_of hb 1
  have hm := x.row.row.2.1
  have hfin : RmTo w ((w.setCell ⟨q, 1, none⟩ (.bool true)).setCell ⟨q, 0, none⟩ (.slice none 0 0)) S q [] true := by
    have e1 := setCell_here hb 1 (.bool true)
    have e2 := setCell_here e1 0 (.slice none 0 0)
    refine ⟨⟨none, 0, e2, by simp, ⟨Kd.C_nil _ _, fun h => absurd h (by simp)⟩, x.ne, fun _ => rfl, by simp⟩, ?_⟩
    exact ((Only.refl w (fun i => i = q)).setCell (p := ⟨q, 1, none⟩) (.inl rfl) _).setCell (p := ⟨q, 0, none⟩) (.inl rfl) _
  have HF := Aside0.mk hfin
  clear hb x hfin
  rcases bad with _ | _
  · rcases hc with hc | hc
    · cases hc
    · by_cases hneg : n < 0
      · clear hc
        go_enter Try.func66, Try.ntmps66
        go_wp2
        go_ret
        exact ⟨rfl, HF.out⟩
      · have hgt : n > (l.length : Int) := by omega
        clear hc
        go_enter Try.func66, Try.ntmps66
        go_wp2
        go_ret
        exact ⟨rfl, HF.out⟩
  · clear hc
    go_enter Try.func66, Try.ntmps66
    go_wp2
    go_ret
    exact ⟨rfl, HF.out⟩
theorem laminaref03_Reader_Take.yes (S : Nat → Prop) (q : Nat) (l : List Int) (bad : Bool) (n : Int) (b r : List Int) (w : World) (hr : Rm w S q l bad) (hn : tkS n l bad = some (b, r)) (hl : l.length < 140737488355328) :
    Calls Try.prog 66 #[.pointer (some ⟨q, 0, none⟩), .int .i64 n] w fun e w' => ∃ v, e = .returned v ∧ Kd.R (Kd.int .u8) 5 w' w.heap.size (fun _ => True) v b ∧ RmTo w w' S q r false := by
  obtain ⟨rfl, hn0, hn1, rfl, rfl⟩ := tkS_some hn
  clear hn
  obtain ⟨m, rfl⟩ := Int.eq_ofNat_of_zero_le hn0
  rw [Int.toNat_natCast]
  have hm : m ≤ l.length := by omega
  obtain ⟨A, c, x⟩ := hr
  have hb := x.str
  have h0 : w.cell? ⟨q, 0, none⟩ = some (.slice A l.length c) := by rw [cell_of hb]; rfl
  have h1 : w.cell? ⟨q, 1, none⟩ = some (.bool false) := by rw [cell_of hb]; rfl
  have f0 := frozen_of hb 0
  have hmx := x.row.row.2.1
  have hlc := x.len
  have hqlt := blk_size hb
  have hlt' : (l.take m).length = m := by rw [List.length_take]; omega
  have hCT : Kd.C (Kd.int .u8) w A m (l.take m) := by have := Kd.C_take (m := m) x.row.row hm; rw [hlt'] at this; exact this
  have X := Aside0.mk x
  have HCT := Aside0.mk hCT
  clear hb x hCT hlt'
  have hn2 : ¬ ((m : Int) < 0) := by omega
  have hn3 : ¬ ((m : Int) > l.length) := by omega
  have hmc : m ≤ c := by omega
  by_cases hcm : c = m
  all_goals
    go_enter Try.func66, Try.ntmps66
    go_wp2_with (((with_reducible refine gate_builtin (b := .append) (xs := #[.tmp 29, .tmp 35]) rfl ?_); at_builtin; refine Kd.R_append_rows (Kd.int .u8) (w0 := w) w.heap.size rfl (.tmp 29) (.tmp 35) 25 5 (.int .u8 0) 1 rfl Try.underlying25 info5 rfl (by decide) (by omega) _ [] (l.take m) _ _ _ (fun _ => True) (fun _ => False) rfl rfl ?aO ?aR (fun _ _ h => h) (fun _ h => h.elim) (fun _ _ => trivial) ?aB ?aS ?aL ?_; (case aO => exact R_empty w w.heap.size (Nat.le_refl _)); (case aR => exact Kd.C_alloc HCT.out _); (case aB => exact below_alloc (Below.refl _ w) _); (case aS => simp); (case aL => (simp; omega)); intro v3 w3 ho hb hg hat; clear hg hat; obtain ⟨A3, c3, rfl, -⟩ := Kd.R_reads ho; have HO3 := Aside0.mk ho; have HB3 := Aside0.mk hb; have h03 := (hb.cell (p := ⟨q, 0, none⟩) hqlt).trans h0; have f03 := (hb.frozen (p := ⟨q, 0, none⟩) hqlt).trans f0; clear ho hb))
    go_ret
  · subst hcm
    have hfin := rm_cut (m := c) (A2 := A) X.out hm (by rw [if_pos rfl]) HB3.out
    rw [Nat.sub_self] at hfin
    refine ⟨.slice A3 c c3, rfl, ?_, hfin⟩
    have hty := HO3.out
    simp only [List.nil_append] at hty
    rw [show (l.take c).length = c by rw [List.length_take]; omega] at hty
    exact Kd.R_set hty ((HB3.out.block q hqlt).trans X.out.str) (by decide) 0 _
  · have hfin := rm_cut (m := m) X.out hm (by rw [if_neg hcm]) HB3.out
    refine ⟨.slice A3 m c3, rfl, ?_, hfin⟩
    have hty := HO3.out
    simp only [List.nil_append] at hty
    rw [show (l.take m).length = m by rw [List.length_take]; omega] at hty
    exact Kd.R_set hty ((HB3.out.block q hqlt).trans X.out.str) (by decide) 0 _

-- AUX topw
/-- A row of bytes as a number. -/
def topN : List Int → Int
  | [] => 0
  | x :: t => x + 256 * topN t
theorem topN_bd (b : List Int) (hb : ∀ x ∈ b, 0 ≤ x ∧ x < 256) : 0 ≤ topN b ∧ topN b < 256 ^ b.length := by
  induction b with
  | nil => simp [topN]
  | cons x t ih =>
    have h1 := hb x (by simp)
    have h2 := ih (fun y hy => hb y (by simp [hy]))
    simp only [topN, List.length_cons, Int.pow_succ]
    generalize (256 : Int) ^ t.length = P at *
    omega
theorem topN_small (b : List Int) (hb : ∀ x ∈ b, 0 ≤ x ∧ x < 256) (j : Nat) (hl : b.length ≤ 8) (hj : 0 < j) : topN (b.drop j) < 72057594037927936 := by
  have h := (topN_bd (b.drop j) (fun x hx => hb x (List.mem_of_mem_drop hx))).2
  have hp : (256 : Int) ^ (b.drop j).length ≤ 256 ^ 7 := by
    have := Nat.pow_le_pow_right (n := 256) (by decide) (show (b.drop j).length ≤ 7 by rw [List.length_drop]; omega)
    have h2 : ((256 ^ (b.drop j).length : Nat) : Int) ≤ ((256 ^ 7 : Nat) : Int) := Int.ofNat_le.2 this
    rw [Int.natCast_pow, Int.natCast_pow] at h2
    exact h2
  have : (256 : Int) ^ 7 = 72057594037927936 := by decide
  omega
theorem topN_step (b : List Int) (j : Nat) (hj : j < b.length) : topN (b.drop j) = 256 * topN (b.drop (j + 1)) + rd b j := by
  rw [List.drop_eq_getElem_cons hj]
  simp only [topN]
  have : rd b (j : Int) = b[j] := by simp [rd, hj]
  rw [this]
  omega
theorem topN_sum (b : List Int) : ∀ k j : Nat, sumN (b.drop j) k = topN ((b.drop j).take k) := by
  intro k
  induction k with
  | zero => intro j; simp [sumN, topN]
  | succ k ih =>
    intro j
    have hs : ∀ (l : List Int) (k : Nat), topN (l.take (k + 1)) = topN (l.take k) + rd l k * 2 ^ (8 * k) := by
      intro l
      induction l with
      | nil => intro k; simp [topN, rd]
      | cons x t iht =>
        intro k
        rcases k with _ | k
        · simp [topN, rd]
        · have := iht k
          simp only [List.take_succ_cons, topN] at this ⊢
          rw [this]
          have e : rd (x :: t) ((k + 1 : Nat) : Int) = rd t k := by simp [rd]
          have e2 : (2 : Int) ^ (8 * (k + 1)) = 256 * 2 ^ (8 * k) := by rw [show 8 * (k + 1) = 8 + 8 * k by omega, Int.pow_add]; rfl
          rw [e, e2, Int.mul_add]
          have : 256 * (rd t k * 2 ^ (8 * k)) = rd t k * (256 * 2 ^ (8 * k)) := by rw [← Int.mul_assoc, ← Int.mul_assoc, Int.mul_comm 256]
          omega
    simp only [sumN]
    rw [ih j, hs]
theorem unL_top (b : List Int) (hl : b.length = 8) : unL b = wrap64 (topN b) := by
  unfold unL
  have := topN_sum b 8 0
  rw [List.drop_zero, List.take_of_length_le (by omega)] at this
  rw [this]
theorem u64_in (x : Int) (h0 : 0 ≤ x) (h1 : x < 18446744073709551616) : IntKind.u64.wrap x = x := IntWalk.u64_in x (by omega)
theorem top_wraps (b : List Int) (hb : ∀ x ∈ b, 0 ≤ x ∧ x < 256) (j : Nat) (hl : b.length ≤ 8) (hj : j < b.length) : IntKind.u64.wrap (256 * topN (b.drop (j + 1))) = 256 * topN (b.drop (j + 1)) ∧ IntKind.u64.wrap (256 * topN (b.drop (j + 1)) + rd b j) = topN (b.drop j) := by
  have h := topN_small b hb (j + 1) hl (by omega)
  have h0 := (topN_bd (b.drop (j + 1)) (fun x hx => hb x (List.mem_of_mem_drop hx))).1
  have hr := rd_bd hb j hj
  refine ⟨u64_in _ (by omega) (by omega), ?_⟩
  rw [topN_step b j hj]
  exact u64_in _ (by omega) (by omega)

/-! ### laminaref03_Reader_Num: function 55 -/
theorem laminaref03_Reader_Num.calls (S : Nat → Prop) (q : Nat) (l : List Int) (bad : Bool) (w : World) (hr : Rm w S q l bad) (hl : l.length < 140737488355328) :
    Calls Try.prog 55 #[.pointer (some ⟨q, 0, none⟩)] w fun e w' => e = .returned (.int .i64 (numS l bad).1) ∧ RmTo w w' S q (numS l bad).2.1 (numS l bad).2.2 := by
  rcases htk : tkS 8 l bad with _ | ⟨b, r⟩
  · have hb : numS l bad = (0, [], true) := by unfold numS; rw [htk]
    have HT := Aside0.mk (fun W (x : Rm W S q l bad) => laminaref03_Reader_Take.no S q l bad 8 W x htk)
    rw [hb]
    have HR := Aside0.mk hr
    clear htk hb hr
    go_enter Try.func55, Try.ntmps55
    go_wp2_with fail
    refine (HT.out _ HR.out).mono ?_
    rintro e w1 ⟨rfl, hx⟩
    have HX := Aside0.mk hx
    clear hx
    go_wp2
    refine wp_loop_rounds 1 ?_
    rw [rounds_succ]
    go_wp2
    go_ret
    exact ⟨rfl, HX.out⟩
  · have hb : numS l bad = (unL b, r, false) := by unfold numS; rw [htk]
    have HT := Aside0.mk (fun W (x : Rm W S q l bad) => laminaref03_Reader_Take.yes S q l bad 8 b r W x htk hl)
    have hbb := hr.byt
    have hbl : b.length = 8 ∧ ∀ x ∈ b, 0 ≤ x ∧ x < 256 := by
      obtain ⟨_, q1, q2, rfl, rfl⟩ := tkS_some htk
      refine ⟨by rw [List.length_take]; omega, fun x hx => hbb x (List.mem_of_mem_take hx)⟩
    rw [hb, unL_top b hbl.1]
    have HBL := Aside0.mk hbl
    have HR := Aside0.mk hr
    have hb0 : b.length ≤ 8 := by omega
    have hb1 : 8 ≤ b.length := by omega
    clear htk hb hr hbl hbb
    go_enter Try.func55, Try.ntmps55
    go_wp2_with fail
    refine (HT.out _ HR.out).mono ?_
    rintro e w1 ⟨v, rfl, ho, hx⟩
    have HX := Aside0.mk hx
    obtain ⟨A1, c1, rfl, -⟩ := Kd.R_reads ho
    obtain ⟨ad, e, hc⟩ := C_cells (Kd.R_reads' ho).2.2 (by omega)
    subst e
    have HC := Aside0.mk hc
    clear hc hx ho
    go_wp2
    go_loop [4, 5] (fun v4 v5 => ∃ k : Nat, k ≤ b.length ∧ v5 = .int .i64 ((k : Int) - 1) ∧ v4 = .int .u64 (topN (b.drop k))) (fun _ v5 => (intOf v5 + 1).toNat)
    case atStart => exact ⟨b.length, by omega, rfl, by rw [List.drop_length]; rfl⟩
    case round =>
      obtain ⟨k, hk, rfl, rfl⟩ := hrel
      by_cases hlt : 0 < k
      · obtain ⟨j, rfl⟩ : ∃ j, k = j + 1 := ⟨k - 1, by omega⟩
        have hx := HC.out j (by omega)
        obtain ⟨q1, q2⟩ := top_wraps b HBL.out.2 j (by omega) (by omega)
        obtain ⟨r0, r1⟩ := rd_bd HBL.out.2 j (by omega)
        have q3 : ((j + 1 : Nat) : Int) - 1 = (j : Int) := by omega
        rw [q3]
        clear q3 hlt
        go_wp2
        exact ⟨⟨j, by omega, rfl, rfl⟩, by simp [intOf]⟩
      · obtain rfl : k = 0 := by omega
        go_wp2
        go_ret
        exact ⟨rfl, HX.out⟩

/-! ### laminaref03_Reader_Byte: function 57 -/
theorem laminaref03_Reader_Byte.calls (S : Nat → Prop) (q : Nat) (l : List Int) (bad : Bool) (w : World) (hr : Rm w S q l bad) (hl : l.length < 140737488355328) :
    Calls Try.prog 57 #[.pointer (some ⟨q, 0, none⟩)] w fun e w' => e = .returned (.int .u8 (byteS l bad).1) ∧ RmTo w w' S q (byteS l bad).2.1 (byteS l bad).2.2 := by
  rcases htk : tkS 1 l bad with _ | ⟨b, r⟩
  · have hb : byteS l bad = (0, [], true) := by unfold byteS; rw [htk]
    have HT := Aside0.mk (fun W (x : Rm W S q l bad) => laminaref03_Reader_Take.no S q l bad 1 W x htk)
    rw [hb]
    have HR := Aside0.mk hr
    clear htk hb hr
    go_enter Try.func57, Try.ntmps57
    go_wp2_with fail
    refine (HT.out _ HR.out).mono ?_
    rintro e w1 ⟨rfl, hx⟩
    go_wp2
    go_ret
    exact ⟨rfl, hx⟩
  · have hb : byteS l bad = (rd b 0, r, false) := by unfold byteS; rw [htk]
    have HT := Aside0.mk (fun W (x : Rm W S q l bad) => laminaref03_Reader_Take.yes S q l bad 1 b r W x htk hl)
    have hbl : b.length = 1 := by
      obtain ⟨_, q1, q2, rfl, rfl⟩ := tkS_some htk
      rw [List.length_take]; omega
    rw [hb]
    have HR := Aside0.mk hr
    have hb0 : 0 < b.length := by omega
    have hb1 : ((b.length : Int) == 0) = false := by rw [beq_eq_false_iff_ne]; omega
    have hb2 : ¬ b.length = 0 := by omega
    clear htk hb hr hbl
    go_enter Try.func57, Try.ntmps57
    go_wp2_with fail
    refine (HT.out _ HR.out).mono ?_
    rintro e w1 ⟨v, rfl, ho, hx⟩
    have HX := Aside0.mk hx
    obtain ⟨A1, c1, rfl, -⟩ := Kd.R_reads ho
    obtain ⟨ad, e, hc⟩ := C_cells (Kd.R_reads' ho).2.2 hb0
    subst e
    have hc0 : w1.cell? ad = some (.int .u8 (rd b 0)) := by have := hc 0 hb0; rw [add_zero_] at this; exact this
    clear hc hx ho
    go_wp2
    go_ret
    exact ⟨rfl, HX.out⟩

-- AUX rmbad
/-- It is made bad, by hand. -/
theorem rm_bad {w : World} {S : Nat → Prop} {q : Nat} {l : List Int} {bad : Bool} (x : Rm w S q l bad) : (∃ A c, w.cell? ⟨q, 0, none⟩ = some (.slice A l.length c)) ∧ w.cell? ⟨q, 1, none⟩ = some (.bool bad) ∧ w.frozen? ⟨q, 0, none⟩ = false ∧ w.frozen? ⟨q, 1, none⟩ = false ∧
    RmTo w ((w.setCell ⟨q, 1, none⟩ (.bool true)).setCell ⟨q, 0, none⟩ (.slice none 0 0)) S q [] true := by
  obtain ⟨A, c, x⟩ := x
  have hb := x.str
  refine ⟨⟨A, c, by rw [cell_of hb]; rfl⟩, by rw [cell_of hb]; rfl, frozen_of hb 0, frozen_of hb 1, ?_⟩
  have e1 := setCell_here hb 1 (.bool true)
  have e2 := setCell_here e1 0 (.slice none 0 0)
  refine ⟨⟨none, 0, e2, by simp, ⟨Kd.C_nil _ _, fun h => absurd h (by simp)⟩, x.ne, fun _ => rfl, by simp⟩, ?_⟩
  exact ((Only.refl w (fun i => i = q)).setCell (p := ⟨q, 1, none⟩) (.inl rfl) _).setCell (p := ⟨q, 0, none⟩) (.inl rfl) _
theorem byteS_len (l : List Int) (bad : Bool) : (byteS l bad).2.1.length ≤ l.length := by
  unfold byteS
  split
  · rename_i b r h
    obtain ⟨_, _, _, _, rfl⟩ := tkS_some h
    simp
  · simp

/-! ### laminaref03_Reader_Bytes: function 54 -/
theorem laminaref03_Reader_Bytes.calls (S : Nat → Prop) (q : Nat) (l : List Int) (bad : Bool) (w : World) (hr : Rm w S q l bad) (hl : l.length < 140737488355328) :
    Calls Try.prog 54 #[.pointer (some ⟨q, 0, none⟩)] w fun e w' => ∃ v, e = .returned v ∧ Kd.R (Kd.int .u8) 5 w' w.heap.size (fun _ => True) v (bytesS l bad).1 ∧ RmTo w w' S q (bytesS l bad).2.1 (bytesS l bad).2.2 := by
  have HN := Aside0.mk (fun W (x : Rm W S q l bad) => laminaref03_Reader_Num.calls S q l bad W x hl)
  have hf : bytesS l bad = match tkS (numS l bad).1 (numS l bad).2.1 (numS l bad).2.2 with
    | some (b, r) => (b, r, false)
    | none => ([], [], true) := rfl
  have HR := Aside0.mk hr
  have hle := numS_len l bad
  generalize numS l bad = y at *
  obtain ⟨n, r1, bd⟩ := y
  simp only at HN hle
  rw [hf]
  clear hf hr
  rcases htk : tkS n r1 bd with _ | ⟨b, r⟩
  · have HT := Aside0.mk (fun W (x : Rm W S q r1 bd) => laminaref03_Reader_Take.no S q r1 bd n W x htk)
    clear htk
    cases bd
    · skip
      go_enter Try.func54, Try.ntmps54
      go_wp2_with fail
      refine (HN.out _ HR.out).mono ?_
      rintro e w1 ⟨rfl, hx⟩
      have HX := Aside0.mk hx
      obtain ⟨-, h1, -, f1, -⟩ := rm_bad hx.rm
      clear hx
      go_wp2_with fail
      refine (HT.out _ HX.out.rm).mono ?_
      rintro e w2 ⟨rfl, hy⟩
      have HY := Aside0.mk hy
      clear hy
      go_wp2
      go_ret
      exact ⟨_, rfl, Kd.R_nil _ _ _ _ _, HX.out.then_ HY.out⟩
    · skip
      go_enter Try.func54, Try.ntmps54
      go_wp2_with fail
      refine (HN.out _ HR.out).mono ?_
      rintro e w1 ⟨rfl, hx⟩
      have HX := Aside0.mk hx
      obtain ⟨-, h1, -, f1, -⟩ := rm_bad hx.rm
      have hz : r1 = [] := by
        obtain ⟨A, c, x⟩ := hx.rm
        exact x.z rfl
      clear hx
      go_wp2
      go_ret
      subst hz
      exact ⟨_, rfl, Kd.R_nil _ _ _ _ _, HX.out⟩
  · have HT := Aside0.mk (fun W (x : Rm W S q r1 bd) => laminaref03_Reader_Take.yes S q r1 bd n b r W x htk (by omega))
    have hbd := (tkS_some htk).1
    subst hbd
    clear htk
    go_enter Try.func54, Try.ntmps54
    go_wp2_with fail
    refine (HN.out _ HR.out).mono ?_
    rintro e w1 ⟨rfl, hx⟩
    have HX := Aside0.mk hx
    obtain ⟨-, h1, -, f1, -⟩ := rm_bad hx.rm
    clear hx
    go_wp2_with fail
    refine (HT.out _ HX.out.rm).mono ?_
    rintro e w2 ⟨v, rfl, ho, hy⟩
    obtain ⟨A1, c1, rfl, -⟩ := Kd.R_reads ho
    have HO := Aside0.mk ho
    have HY := Aside0.mk hy
    clear hy ho
    go_wp2
    go_ret
    exact ⟨_, rfl, Kd.R_lower HO.out HX.out.only.size, HX.out.then_ HY.out⟩

/-! ### laminaref03_Reader_Flag: function 56 -/
theorem laminaref03_Reader_Flag.calls (S : Nat → Prop) (q : Nat) (l : List Int) (bad : Bool) (w : World) (hr : Rm w S q l bad) (hl : l.length < 140737488355328) :
    Calls Try.prog 56 #[.pointer (some ⟨q, 0, none⟩)] w fun e w' => e = .returned (.bool (flagS l bad).1) ∧ RmTo w w' S q (flagS l bad).2.1 (flagS l bad).2.2 := by
  have HB := Aside0.mk (fun W (x : Rm W S q l bad) => laminaref03_Reader_Byte.calls S q l bad W x hl)
  have hf : flagS l bad = if (byteS l bad).1 > 1 then (false, [], true) else (decide ((byteS l bad).1 = 1), (byteS l bad).2.1, (byteS l bad).2.2) := rfl
  have HR := Aside0.mk hr
  generalize byteS l bad = y at *
  obtain ⟨x, r, bd⟩ := y
  simp only at HB
  rw [hf]
  clear hf hr
  by_cases hg : x > 1
  · rw [if_pos hg]
    have h3 : (x == 1) = false := by rw [beq_eq_false_iff_ne]; omega
    go_enter Try.func56, Try.ntmps56
    go_wp2_with fail
    refine (HB.out _ HR.out).mono ?_
    rintro e w1 ⟨rfl, hx⟩
    have HX := Aside0.mk hx
    obtain ⟨⟨A, c, h0⟩, h1, f0, f1, hfin⟩ := rm_bad hx.rm
    have HF := Aside0.mk hfin
    clear hx hfin
    go_wp2
    go_ret
    exact ⟨rfl, HX.out.then_ HF.out⟩
  · rw [if_neg hg]
    by_cases h1 : x = 1
    · subst h1
      go_enter Try.func56, Try.ntmps56
      go_wp2_with fail
      refine (HB.out _ HR.out).mono ?_
      rintro e w1 ⟨rfl, hx⟩
      have HX := Aside0.mk hx
      clear hx
      go_wp2
      go_ret
      exact ⟨rfl, HX.out⟩
    · have h2 : decide (x = 1) = false := decide_eq_false h1
      have h3 : (x == 1) = false := by simpa using h1
      rw [h2]
      go_enter Try.func56, Try.ntmps56
      go_wp2_with fail
      refine (HB.out _ HR.out).mono ?_
      rintro e w1 ⟨rfl, hx⟩
      have HX := Aside0.mk hx
      clear hx
      go_wp2
      go_ret
      exact ⟨rfl, HX.out⟩

end Go.Proofs.Ytdehifinipmmcaa.Hp
