/- Contracts of functions of the given program, and what they lean on: written by this session's own program, out of hand texts laid into the kit's printer. -/
import Derived.Deep.DeepMust
import Derived.Test.YtibpbihcbgcedaaHp0
import Derived.Test.YtibpbihcbgcedaaHg1
namespace Go.Proofs.Ytibpbihcbgcedaa.Hp
open Go.RowKit Go.Proofs.YtibpbihcbgcedaaW.PrintWords Go.Proofs.YtibpbihcbgcedaaW.PrintLast Go.Proofs.YtibpbihcbgcedaaW.PrintMore
attribute [local go_sem] max2_int min2_int max_two min_two max_three min_three max_four min_four   -- for this text's walks alone
set_option linter.unusedVariables false
set_option linter.unusedSimpArgs false

/-! ### laminaref03_Reader_Nums: function 42 -/
theorem laminaref03_Reader_Nums.calls (S : Nat → Prop) (q : Nat) (l : List Int) (bad : Bool) (w : World) (hr : Rm w S q l bad) (hl : l.length < 140737488355328) (hS : ∀ i, S i → i < w.heap.size) :
    Calls Try.prog 42 #[.pointer (some ⟨q, 0, none⟩)] w fun e w' => ∃ v, e = .returned v ∧ Kd.R (Kd.int .i64) 3 w' w.heap.size (fun _ => True) v (numsS l bad).1 ∧ RmTo w w' S q (numsS l bad).2.1 (numsS l bad).2.2 := by
  have HN := Aside0.mk (fun W l' bad' (x : Rm W S q l' bad') (hl' : l'.length < 140737488355328) => laminaref03_Reader_Num.calls S q l' bad' W x hl')
  have HN0 := Aside0.mk (HN.out w l bad hr hl)
  have hf : numsS l bad = if (numS l bad).1 < 0 ∨ (numS l bad).1 > (numS l bad).2.1.length / 8 then ([], [], true) else numsR (numS l bad).1.toNat (numS l bad).2.1 (numS l bad).2.2 := rfl
  have hle := numS_len l bad
  have hpl := hr.lt
  have HR := Aside0.mk hr
  generalize numS l bad = y at *
  obtain ⟨n, l1, b1⟩ := y
  simp only at hf hle HN0
  rw [hf]
  clear hf hr
  by_cases hg : n < 0 ∨ n > (l1.length : Int) / 8
  · rw [if_pos hg]
    by_cases hneg : n < 0
    · clear hg
      go_enter Try.func42, Try.ntmps42
      go_wp2_with fail
      refine HN0.out.mono ?_
      rintro e w1 ⟨rfl, hx⟩
      have HX := Aside0.mk hx
      obtain ⟨⟨A, c, h0⟩, h1, f0, f1, hfin⟩ := rm_bad hx.rm
      have HF := Aside0.mk hfin
      clear hx hfin
      cases b1
      all_goals
        go_wp2
        go_ret
        exact ⟨_, rfl, Kd.R_nil _ _ _ _ _, HX.out.then_ HF.out⟩
    · have hq : (l1.length : Int) / 8 < n := by omega
      have h0' : (0 : Int) ≤ l1.length := by omega
      clear hg
      go_enter Try.func42, Try.ntmps42
      go_wp2_with fail
      refine HN0.out.mono ?_
      rintro e w1 ⟨rfl, hx⟩
      have HX := Aside0.mk hx
      obtain ⟨⟨A, c, h0⟩, h1, f0, f1, hfin⟩ := rm_bad hx.rm
      have HF := Aside0.mk hfin
      clear hx hfin
      cases b1
      all_goals
        go_wp2
        go_ret
        exact ⟨_, rfl, Kd.R_nil _ _ _ _ _, HX.out.then_ HF.out⟩
  · rw [if_neg hg]
    obtain ⟨N, rfl⟩ := Int.eq_ofNat_of_zero_le (show 0 ≤ n by omega)
    have hq : ¬ ((l1.length : Int) / 8 < (N : Int)) := by omega
    have hN : N ≤ 17592186044416 := by omega
    have hneg : ¬ ((N : Int) < 0) := by omega
    have h0' : (0 : Int) ≤ l1.length := by omega
    rw [Int.toNat_natCast]
    clear hg
    cases b1
    case true =>
      go_enter Try.func42, Try.ntmps42
      go_wp2_with fail
      refine HN0.out.mono ?_
      rintro e w1 ⟨rfl, hx⟩
      have HX := Aside0.mk hx
      obtain ⟨⟨A, c, h0⟩, h1, f0, f1, hfin⟩ := rm_bad hx.rm
      have HF := Aside0.mk hfin
      have hz : l1 = [] := by
        obtain ⟨A, c, x⟩ := hx.rm
        exact x.z rfl
      clear hx hfin
      go_wp2
      go_ret
      subst hz
      obtain rfl : N = 0 := by simp at hq; omega
      exact ⟨_, rfl, Kd.R_nil _ _ _ _ _, HX.out.then_ HF.out⟩
    go_enter Try.func42, Try.ntmps42
    go_wp2_with fail
    refine HN0.out.mono ?_
    rintro e w1 ⟨rfl, hx⟩
    have HX := Aside0.mk hx
    obtain ⟨⟨A, c, h0⟩, h1, f0, f1, -⟩ := rm_bad hx.rm
    clear hx
    go_wp2
    clear h0 h1 f0 f1
    go_loopw [4, 5] (fun v4 v5 wr => ∃ k : Nat, k ≤ N ∧ v5 = .int .i64 k ∧ Aside0 (Kd.R (Kd.int .i64) 3 wr w.heap.size (fun _ => True) v4 (numsR k l1 false).1) ∧ Aside0 ((numsR k l1 false).1.length = k) ∧ Aside0 (RmTo w wr S q (numsR k l1 false).2.1 (numsR k l1 false).2.2) ∧ Aside0 ((numsR k l1 false).2.1.length ≤ l1.length)) (fun _ v5 _ => N - (intOf v5).toNat)
    case atStart => exact ⟨0, by omega, rfl, ⟨Kd.R_nil _ _ _ _ _⟩, ⟨rfl⟩, HX, ⟨Nat.le_refl _⟩⟩
    case round =>
      obtain ⟨k, hk, rfl, HO, HL, HK, HLE⟩ := hrel
      obtain ⟨A4, c4, rfl, -⟩ := Kd.R_reads HO.out
      by_cases hlt : k < N
      · have hnx : numsR (k + 1) l1 false = ((numsR k l1 false).1 ++ [(numS (numsR k l1 false).2.1 (numsR k l1 false).2.2).1], (numS (numsR k l1 false).2.1 (numsR k l1 false).2.2).2) := rfl
        have HNX := Aside0.mk hnx
        have HM := Aside0.mk (HN.out wr _ _ HK.out.rm (by have := HLE.out; omega))
        have HLS := Aside0.mk (numS_len (numsR k l1 false).2.1 (numsR k l1 false).2.2)
        clear hnx
        generalize numsR k l1 false = y1 at *
        obtain ⟨ns, l2, b2⟩ := y1
        simp only at HO HL HK HNX HM HLE HLS
        generalize numS l2 b2 = y3 at *
        obtain ⟨x, l3, b3⟩ := y3
        simp only at HNX HM HLS
        go_wp2_with fail
        refine HM.out.mono ?_
        rintro e w2 ⟨rfl, hy⟩
        have HY := Aside0.mk hy
        have HO2 := Aside0.mk (R_only (Kd.R_mono (Kd.R_bound HO.out) (fun i hi => (hi.2.1 : w.heap.size ≤ i))) hy.only (fun i hi hp => by subst hp; omega))
        have hsz2 : w.heap.size ≤ w2.heap.size := (HK.out.only.same hy.only).size
        clear hy
        go_wp2_with (((with_reducible refine gate_builtin (b := .append) (xs := #[.tmp 37, .tmp 40]) rfl ?_); at_builtin; go_must (refine Kd.R_append (Kd.int .i64) (w0 := _) w.heap.size rfl (.tmp 37) (.tmp 40) 29 3 (.int .i64 0) 8 rfl Try.underlying29 info3 rfl (by decide) (by omega) _ ns x [.int .i64 x] (fun i => w.heap.size ≤ i) (fun _ => False) rfl rfl rfl (fun _ h => h.elim) (fun i hi => by omega) (HO2.out) (Below.refl _ _) (hsz2) (by have := HL.out; omega) ?_; intro v3 w3 ho hb hg hat; clear hb hat; obtain ⟨A5, c5, rfl, -⟩ := Kd.R_reads ho; have HO3 := Aside0.mk ho; have HG3 := Aside0.mk hg; clear ho hg)))
        refine ⟨⟨k + 1, by omega, by go_num, ?_, ?_, ?_, ?_⟩, by simp [intOf]; omega⟩
        · rw [HNX.out]
          exact ⟨by simpa using Kd.R_mono HO3.out (fun _ _ => trivial)⟩
        · rw [HNX.out]
          exact ⟨by simp [HL.out]⟩
        · rw [HNX.out]
          have og : Only w2 w3 (fun i => w.heap.size ≤ i) := Only.of_grown HG3.out (fun i hi => HO2.out.1 i hi)
          exact ⟨⟨HY.out.rm.only og (fun i hi => by have := hS i hi; omega) (by omega), (HK.out.only.same HY.out.only).then_ og (fun i hi => .inr hi)⟩⟩
        · rw [HNX.out]
          exact ⟨by have := HLE.out; have := HLS.out; simp only; omega⟩
      · obtain rfl : k = N := by omega
        go_wp2
        go_ret
        exact ⟨_, rfl, HO.out, HK.out⟩

/-! ### laminalaw03_read: function 18 -/
theorem read_byte (S : Nat → Prop) (h : Value) (l : List Int) (bad : Bool) (S2 : Nat → Prop) (q : Nat) (l2 : List Int) (bad2 : Bool) (kind : Int) (w : World) (hr : Rd w S h l bad) (hm : Rm w S2 q l2 bad2) (a1 : ¬ S q) (a2 : ¬ Pt h q) (a3 : ∀ i, S2 i → ¬ Pt h i) (a4 : ∀ i, S2 i → ¬ S i) (a5 : ∀ i, S i → i < w.heap.size) (a6 : ∀ i, S2 i → i < w.heap.size) (hl : l.length ≤ 1000000) (hl2 : l2.length ≤ 1000000) (hk : kind = 0) :
    Calls Try.prog 18 #[h, .pointer (some ⟨q, 0, none⟩), .int .i64 kind] w fun e w' => ∃ b, e = .returned (.bool b) ∧ ReadOk b l l2 bad bad2 ∧ ReadTo w w' S h (byteS l bad).2 S2 q (byteS l2 bad2).2 := by
  have HR := Aside0.mk hr
  have HM := Aside0.mk hm
  subst hk
  clear hr hm
  go_enter Try.func18, Try.ntmps18
  go_wp2_with fail
  refine (wire_Reader_Byte.calls S h l bad _ HR.out).mono ?_
  rintro e w1 ⟨rfl, hx⟩
  have HX := Aside0.mk hx
  have hm1 := HM.out.only hx.only a3 a2
  clear hx
  go_wp2_with fail
  refine (laminaref03_Reader_Byte.calls S2 q l2 bad2 _ hm1 (by omega)).mono ?_
  rintro e w2 ⟨rfl, hy⟩
  have HY := Aside0.mk hy
  clear hy hm1
  have hq : l = l2 ∧ bad = bad2 → ((byteS l bad).1 == (byteS l2 bad2).1) = true := by rintro ⟨rfl, rfl⟩; simp
  have HQ := Aside0.mk hq
  clear hq
  go_wp2
  go_ret
  exact ⟨_, rfl, HQ.out, ReadTo.mk_ HX.out HY.out a1 a2⟩
theorem read_num (S : Nat → Prop) (h : Value) (l : List Int) (bad : Bool) (S2 : Nat → Prop) (q : Nat) (l2 : List Int) (bad2 : Bool) (kind : Int) (w : World) (hr : Rd w S h l bad) (hm : Rm w S2 q l2 bad2) (a1 : ¬ S q) (a2 : ¬ Pt h q) (a3 : ∀ i, S2 i → ¬ Pt h i) (a4 : ∀ i, S2 i → ¬ S i) (a5 : ∀ i, S i → i < w.heap.size) (a6 : ∀ i, S2 i → i < w.heap.size) (hl : l.length ≤ 1000000) (hl2 : l2.length ≤ 1000000) (h0 : ¬ kind = 0) (h2 : ¬ kind = 2) (h3 : ¬ kind = 3) (h4 : ¬ kind = 4) (h5 : ¬ kind = 5) :
    Calls Try.prog 18 #[h, .pointer (some ⟨q, 0, none⟩), .int .i64 kind] w fun e w' => ∃ b, e = .returned (.bool b) ∧ ReadOk b l l2 bad bad2 ∧ ReadTo w w' S h (numS l bad).2 S2 q (numS l2 bad2).2 := by
  have HR := Aside0.mk hr
  have HM := Aside0.mk hm
  have k0 : (kind == 0) = false := by rw [beq_eq_false_iff_ne]; omega
  have k2 : (kind == 2) = false := by rw [beq_eq_false_iff_ne]; omega
  have k3 : (kind == 3) = false := by rw [beq_eq_false_iff_ne]; omega
  have k4 : (kind == 4) = false := by rw [beq_eq_false_iff_ne]; omega
  have k5 : (kind == 5) = false := by rw [beq_eq_false_iff_ne]; omega
  clear hr hm
  go_enter Try.func18, Try.ntmps18
  go_wp2_with fail
  refine (wire_Reader_Num.calls S h l bad _ HR.out).mono ?_
  rintro e w1 ⟨rfl, hx⟩
  have HX := Aside0.mk hx
  have hm1 := HM.out.only hx.only a3 a2
  clear hx
  go_wp2_with fail
  refine (laminaref03_Reader_Num.calls S2 q l2 bad2 _ hm1 (by omega)).mono ?_
  rintro e w2 ⟨rfl, hy⟩
  have HY := Aside0.mk hy
  clear hy hm1
  have hq : l = l2 ∧ bad = bad2 → ((numS l bad).1 == (numS l2 bad2).1) = true := by rintro ⟨rfl, rfl⟩; simp
  have HQ := Aside0.mk hq
  clear hq
  go_wp2
  go_ret
  exact ⟨_, rfl, HQ.out, ReadTo.mk_ HX.out HY.out a1 a2⟩
theorem read_flag (S : Nat → Prop) (h : Value) (l : List Int) (bad : Bool) (S2 : Nat → Prop) (q : Nat) (l2 : List Int) (bad2 : Bool) (kind : Int) (w : World) (hr : Rd w S h l bad) (hm : Rm w S2 q l2 bad2) (a1 : ¬ S q) (a2 : ¬ Pt h q) (a3 : ∀ i, S2 i → ¬ Pt h i) (a4 : ∀ i, S2 i → ¬ S i) (a5 : ∀ i, S i → i < w.heap.size) (a6 : ∀ i, S2 i → i < w.heap.size) (hl : l.length ≤ 1000000) (hl2 : l2.length ≤ 1000000) (hk : kind = 2) :
    Calls Try.prog 18 #[h, .pointer (some ⟨q, 0, none⟩), .int .i64 kind] w fun e w' => ∃ b, e = .returned (.bool b) ∧ ReadOk b l l2 bad bad2 ∧ ReadTo w w' S h (flagS l bad).2 S2 q (flagS l2 bad2).2 := by
  have HR := Aside0.mk hr
  have HM := Aside0.mk hm
  subst hk
  clear hr hm
  go_enter Try.func18, Try.ntmps18
  go_wp2_with fail
  refine (wire_Reader_Flag.calls S h l bad _ HR.out).mono ?_
  rintro e w1 ⟨rfl, hx⟩
  have HX := Aside0.mk hx
  have hm1 := HM.out.only hx.only a3 a2
  clear hx
  go_wp2_with fail
  refine (laminaref03_Reader_Flag.calls S2 q l2 bad2 _ hm1 (by omega)).mono ?_
  rintro e w2 ⟨rfl, hy⟩
  have HY := Aside0.mk hy
  clear hy hm1
  have h1 := (rm_bad HY.out.rm).2.1
  have hq : l = l2 ∧ bad = bad2 → ((flagS l bad).1 == ((flagS l2 bad2).1 && !(flagS l2 bad2).2.2)) = true := by
    rintro ⟨rfl, rfl⟩
    have := flagS_bad l bad
    rcases hf : flagS l bad with ⟨x, y, z⟩
    rw [hf] at this
    cases x <;> cases z <;> simp_all
  have HQ := Aside0.mk hq
  clear hq
  obtain ⟨y2, hy2⟩ : ∃ y2, y2 = flagS l2 bad2 := ⟨_, rfl⟩
  obtain ⟨y1, hy1⟩ : ∃ y1, y1 = flagS l bad := ⟨_, rfl⟩
  have hto := ReadTo.mk_ HX.out HY.out a1 a2
  have HTO : Aside0 (ReadTo w w2 S h (flagS l bad).2 S2 q (flagS l2 bad2).2) := ⟨hto⟩
  clear hto
  rw [← hy1, ← hy2] at HQ
  rw [← hy1, ← hy2]
  rw [← hy2] at h1
  clear hy1 hy2
  obtain ⟨b2, l3, d2⟩ := y2
  obtain ⟨b1, l4, d1⟩ := y1
  cases b2 <;> cases d2 <;> cases b1
  all_goals
    go_wp2
    go_ret
    exact ⟨_, rfl, by first | exact HQ.out | simpa using HQ.out, HTO.out⟩
theorem read_text (S : Nat → Prop) (h : Value) (l : List Int) (bad : Bool) (S2 : Nat → Prop) (q : Nat) (l2 : List Int) (bad2 : Bool) (kind : Int) (w : World) (hr : Rd w S h l bad) (hm : Rm w S2 q l2 bad2) (a1 : ¬ S q) (a2 : ¬ Pt h q) (a3 : ∀ i, S2 i → ¬ Pt h i) (a4 : ∀ i, S2 i → ¬ S i) (a5 : ∀ i, S i → i < w.heap.size) (a6 : ∀ i, S2 i → i < w.heap.size) (hl : l.length ≤ 1000000) (hl2 : l2.length ≤ 1000000) (hk : kind = 4) :
    Calls Try.prog 18 #[h, .pointer (some ⟨q, 0, none⟩), .int .i64 kind] w fun e w' => ∃ b, e = .returned (.bool b) ∧ ReadOk b l l2 bad bad2 ∧ ReadTo w w' S h (bytesS l bad).2 S2 q (bytesS l2 bad2).2 := by
  have HR := Aside0.mk hr
  have HM := Aside0.mk hm
  subst hk
  clear hr hm
  go_enter Try.func18, Try.ntmps18
  go_wp2_with fail
  refine (wire_Reader_Text.calls S h l bad _ HR.out).mono ?_
  rintro e w1 ⟨rfl, hx⟩
  have HX := Aside0.mk hx
  have hm1 := HM.out.only hx.only a3 a2
  clear hx
  go_wp2_with fail
  refine (laminaref03_Reader_Bytes.calls S2 q l2 bad2 _ hm1 (by omega)).mono ?_
  rintro e w2 ⟨v2, rfl, ho, hy⟩
  have HY := Aside0.mk hy
  clear hy hm1
  obtain ⟨A2, c2, rfl, -⟩ := Kd.R_reads ho
  have hcv := Kd.C_string (P := Try.prog) (A := A2) (c := c2) Try.underlying26 Try.underlying5 Try.underlying9 (Kd.R_reads' ho).2.2
  clear ho
  have hq : l = l2 ∧ bad = bad2 → ((strOfNums (bytesS l bad).1).toList == (strOfNums (bytesS l2 bad2).1).toList) = true := by rintro ⟨rfl, rfl⟩; simp
  have HQ := Aside0.mk hq
  clear hq
  go_wp2
  go_ret
  exact ⟨_, rfl, by first | exact HQ.out | simpa using HQ.out, ReadTo.mk_ HX.out HY.out a1 a2⟩
theorem read_nums (S : Nat → Prop) (h : Value) (l : List Int) (bad : Bool) (S2 : Nat → Prop) (q : Nat) (l2 : List Int) (bad2 : Bool) (kind : Int) (w : World) (hr : Rd w S h l bad) (hm : Rm w S2 q l2 bad2) (a1 : ¬ S q) (a2 : ¬ Pt h q) (a3 : ∀ i, S2 i → ¬ Pt h i) (a4 : ∀ i, S2 i → ¬ S i) (a5 : ∀ i, S i → i < w.heap.size) (a6 : ∀ i, S2 i → i < w.heap.size) (hl : l.length ≤ 1000000) (hl2 : l2.length ≤ 1000000) (hk : kind = 5) :
    Calls Try.prog 18 #[h, .pointer (some ⟨q, 0, none⟩), .int .i64 kind] w fun e w' => ∃ b, e = .returned (.bool b) ∧ ReadOk b l l2 bad bad2 ∧ ReadTo w w' S h (numsS l bad).2 S2 q (numsS l2 bad2).2 := by
  have HR := Aside0.mk hr
  have HM := Aside0.mk hm
  subst hk
  have hnl := numsS_len l bad
  clear hr hm
  go_enter Try.func18, Try.ntmps18
  go_wp2_with fail
  refine (wire_Reader_Nums.calls S h l bad _ HR.out a5 (by omega)).mono ?_
  rintro e w1 ⟨v1, rfl, hp, hx⟩
  have HX := Aside0.mk hx
  have hm1 := HM.out.only hx.only a3 a2
  clear hx
  go_wp2_with fail
  refine (laminaref03_Reader_Nums.calls S2 q l2 bad2 _ hm1 (by omega) (fun i hi => Nat.lt_of_lt_of_le (a6 i hi) HX.out.only.size)).mono ?_
  rintro e w2 ⟨v2, rfl, ho, hy⟩
  have HY := Aside0.mk hy
  clear hy hm1
  obtain ⟨A2, c2, rfl, -⟩ := Kd.R_reads ho
  have hp1 := Kd.R_only_lt hp HY.out.only (fun i h1 h2 => by have := HM.out.lt; omega)
  obtain ⟨A1, c1, rfl, -⟩ := Kd.R_reads hp1
  obtain ⟨b, hb, hbt⟩ := ints_some (numsS l bad).1 (numsS l2 bad2).1 (by omega)
  have HI := Aside0.mk (laminanum_Ints.calls _ A1 c1 _ A2 c2 _ b w2 (Kd.R_reads' hp1).2.2 (Kd.R_reads' hp1).2.1 (Kd.R_reads' ho).2.2 (Kd.R_reads' ho).2.1 hb)
  clear ho hp1 hp
  go_wp2_with fail
  refine HI.out.mono ?_
  rintro e w3 ⟨rfl, ⟨n3, rfl⟩⟩
  go_wp2
  go_ret
  refine ⟨_, rfl, fun hh => hbt (by rw [hh.1, hh.2]), (ReadTo.mk_ HX.out HY.out a1 a2).below (pw_below_drewN (Below.refl _ _) _)⟩
theorem read_bytes (S : Nat → Prop) (h : Value) (l : List Int) (bad : Bool) (S2 : Nat → Prop) (q : Nat) (l2 : List Int) (bad2 : Bool) (kind : Int) (w : World) (hr : Rd w S h l bad) (hm : Rm w S2 q l2 bad2) (a1 : ¬ S q) (a2 : ¬ Pt h q) (a3 : ∀ i, S2 i → ¬ Pt h i) (a4 : ∀ i, S2 i → ¬ S i) (a5 : ∀ i, S i → i < w.heap.size) (a6 : ∀ i, S2 i → i < w.heap.size) (hl : l.length ≤ 1000000) (hl2 : l2.length ≤ 1000000) (hk : kind = 3) :
    Calls Try.prog 18 #[h, .pointer (some ⟨q, 0, none⟩), .int .i64 kind] w fun e w' => ∃ b, e = .returned (.bool b) ∧ ReadOk b l l2 bad bad2 ∧ ReadTo w w' S h (bytesS l bad).2 S2 q (bytesS l2 bad2).2 := by
  have HR := Aside0.mk hr
  have HM := Aside0.mk hm
  subst hk
  clear hr hm
  go_enter Try.func18, Try.ntmps18
  go_wp2_with fail
  refine (wire_Reader_Bytes.calls S h l bad _ HR.out).mono ?_
  rintro e w1 ⟨A, c, rfl, hc, hx0⟩
  have X := Aside0.mk hx0
  have hx := hx0.rdto
  clear hx0
  have HX := Aside0.mk hx
  have hm1 := HM.out.only hx.only a3 a2
  clear hx
  go_wp2_with fail
  refine (laminaref03_Reader_Bytes.calls S2 q l2 bad2 _ hm1 (by omega)).mono ?_
  rintro e w2 ⟨v2, rfl, ho, hy⟩
  have HY := Aside0.mk hy
  clear hy hm1
  have hrow := X.out.row.only HY.out.only (fun i hi e => by subst e; exact a1 hi)
  have hnf := X.out.nf.only X.out.row HY.out.only (fun i hi e => by subst e; exact a1 hi)
  have hst := X.out.stab.only HY.out.only (fun i hi e => by subst e; exact a1 hi) (fun i hi e => by subst e; exact a2 hi)
  obtain ⟨A2, c2, rfl, -⟩ := Kd.R_reads ho
  have HSM := Aside0.mk (laminanum_Same.calls A c (bytesS l bad).1 A2 c2 (bytesS l2 bad2).1 _ w2 hrow.row hc (Kd.R_reads' ho).2.2 (Kd.R_reads' ho).2.1 rfl)
  have HROW := Aside0.mk hrow
  have HNF := Aside0.mk hnf
  have HST := Aside0.mk hst
  have hq : l = l2 ∧ bad = bad2 → ((strOfNums (bytesS l bad).1).toList == (strOfNums (bytesS l2 bad2).1).toList) = true := by rintro ⟨rfl, rfl⟩; simp
  have HQ := Aside0.mk hq
  clear ho hrow hnf hst hq
  generalize ((strOfNums (bytesS l bad).1).toList == (strOfNums (bytesS l2 bad2).1).toList) = bq at *
  go_wp2_with fail
  refine HSM.out.mono ?_
  rintro e w3 ⟨rfl, ⟨n3, rfl⟩⟩
  have hb3 := pw_below_drewN (Below.refl w2.heap.size w2) n3
  have HROW3 := Aside0.mk (HROW.out.below hb3)
  have HOV := Aside0.mk (laminanum_Over.seg S A c (bytesS l bad).1 _ HROW3.out (HNF.out.only HROW.out (Only.of_below hb3 (fun _ => False)) (fun _ _ h => h)))
  clear hb3
  go_wp2_with fail
  refine HOV.out.mono ?_
  rintro e w4 ⟨rfl, sg⟩
  have SG := Aside0.mk sg
  clear sg
  go_wp2
  go_ret
  have hb3 := pw_below_drewN (Below.refl w2.heap.size w2) n3
  have og := SG.out.only HROW3.out
  refine ⟨_, rfl, HQ.out, (HST.out.only (Only.of_below hb3 (fun _ => False)) (fun _ _ h => h) (fun _ _ h => h)).seg SG.out, (HY.out.rm.below hb3).only og a4 a1, ?_⟩
  exact (((HX.out.only.mono (fun i hi => .inl hi)).same (HY.out.only.mono (fun i hi => .inr (.inl hi)))).below_ hb3).same (og.mono (fun i hi => .inr (.inr hi)))
theorem laminalaw03_read.calls (S : Nat → Prop) (h : Value) (l : List Int) (bad : Bool) (S2 : Nat → Prop) (q : Nat) (l2 : List Int) (bad2 : Bool) (kind : Int) (w : World) (hr : Rd w S h l bad) (hm : Rm w S2 q l2 bad2) (a1 : ¬ S q) (a2 : ¬ Pt h q) (a3 : ∀ i, S2 i → ¬ Pt h i) (a4 : ∀ i, S2 i → ¬ S i) (a5 : ∀ i, S i → i < w.heap.size) (a6 : ∀ i, S2 i → i < w.heap.size) (hl : l.length ≤ 1000000) (hl2 : l2.length ≤ 1000000) :
    Calls Try.prog 18 #[h, .pointer (some ⟨q, 0, none⟩), .int .i64 kind] w fun e w' => ∃ b, e = .returned (.bool b) ∧ ReadOk b l l2 bad bad2 ∧ ReadTo w w' S h (rdS kind l bad) S2 q (rdS kind l2 bad2) := by
  by_cases h0 : kind = 0
  · have e : ∀ l bad, rdS kind l bad = (byteS l bad).2 := fun l bad => by unfold rdS; rw [if_pos h0]
    rw [e, e]
    exact read_byte S h l bad S2 q l2 bad2 kind w hr hm a1 a2 a3 a4 a5 a6 hl hl2 h0
  by_cases h2 : kind = 2
  · have e : ∀ l bad, rdS kind l bad = (flagS l bad).2 := fun l bad => by unfold rdS; rw [if_neg h0, if_pos h2]
    rw [e, e]
    exact read_flag S h l bad S2 q l2 bad2 kind w hr hm a1 a2 a3 a4 a5 a6 hl hl2 h2
  by_cases h3 : kind = 3
  · have e : ∀ l bad, rdS kind l bad = (bytesS l bad).2 := fun l bad => by unfold rdS; rw [if_neg h0, if_neg h2, if_pos h3]
    rw [e, e]
    exact read_bytes S h l bad S2 q l2 bad2 kind w hr hm a1 a2 a3 a4 a5 a6 hl hl2 h3
  by_cases h4 : kind = 4
  · have e : ∀ l bad, rdS kind l bad = (bytesS l bad).2 := fun l bad => by unfold rdS; rw [if_neg h0, if_neg h2, if_neg h3, if_pos h4]
    rw [e, e]
    exact read_text S h l bad S2 q l2 bad2 kind w hr hm a1 a2 a3 a4 a5 a6 hl hl2 h4
  by_cases h5 : kind = 5
  · have e : ∀ l bad, rdS kind l bad = (numsS l bad).2 := fun l bad => by unfold rdS; rw [if_neg h0, if_neg h2, if_neg h3, if_neg h4, if_pos h5]
    rw [e, e]
    exact read_nums S h l bad S2 q l2 bad2 kind w hr hm a1 a2 a3 a4 a5 a6 hl hl2 h5
  · have e : ∀ l bad, rdS kind l bad = (numS l bad).2 := fun l bad => by unfold rdS; rw [if_neg h0, if_neg h2, if_neg h3, if_neg h4, if_neg h5]
    rw [e, e]
    exact read_num S h l bad S2 q l2 bad2 kind w hr hm a1 a2 a3 a4 a5 a6 hl hl2 h0 h2 h3 h4 h5

/-! ### laminanum_Num: function 44 -/
def laminanum_Num.f (a0 : Option Int) : Option (Int) := if a0.isNone = true then (some 0) else (if (a0.getD 0) = 0 then (some (-1)) else (some (a0.getD 0)))
set_option maxHeartbeats 8000000 in
set_option maxRecDepth 100000 in
theorem laminanum_Num.calls (a0 : Option Int) (r : Int) (w : World) (h : laminanum_Num.f a0 = some r) :
    Calls Try.prog 44 #[errW a0] w fun e w' => e = .returned (.int .i64 r) ∧ Drawn0 w w' := by
  have hu46 := Try.underlying46
  have hu49 := Try.underlying49
  have hta : ∀ (v : Value) (W : World), (Instr.typeAssert (.iface 49 v) 46 49 true).run Try.prog W = .ok (.tuple #[v, .bool true]) W := fun v W => by rfl
  have H : (if a0.isNone = true then (some 0) else (if (a0.getD 0) = 0 then (some (-1)) else (some (a0.getD 0)))) = some r := h
  clear h
  rcases a0 with _ | q124
  · have H1 : (some 0) = some r := by rw [if_pos (show (none : Option Int).isNone = true by rfl)] at H; exact H
    clear H
    have H := H1
    clear H1
    simp only [errW_none, errW_some]
    obtain rfl := Option.some.inj H
    go_enter Try.func44, Try.ntmps44
    go_wp2
    go_ret
    exact ⟨by first | rfl | (simp; done) | (simp [*]; done), by repeat (first | exact Drawn0.refl _ | apply Drawn0.step)⟩
  · have H1 : (if q124 = 0 then (some (-1)) else (some q124)) = some r := by rw [if_neg (show ¬ (some q124).isNone = true by simp)] at H; exact H
    clear H
    have H := H1
    clear H1
    simp only [errW_none, errW_some]
    by_cases c2 : q124 = 0
    · rw [if_pos c2] at H
      have c2b0 : (q124 == 0) = true := beq_iff_eq.mpr c2
      have c2b1 : (q124 != 0) = false := bne_eq_false_iff_eq.mpr c2
      clear c2
      obtain rfl := Option.some.inj H
      go_enter Try.func44, Try.ntmps44
      go_wp2
      go_ret
      exact ⟨by first | rfl | (simp; done) | (simp [*]; done), by repeat (first | exact Drawn0.refl _ | apply Drawn0.step)⟩
    · rw [if_neg c2] at H
      have c2b0 : (q124 == 0) = false := beq_eq_false_iff_ne.mpr c2
      have c2b1 : (q124 != 0) = true := bne_iff_ne.mpr c2
      obtain rfl := Option.some.inj H
      go_enter Try.func44, Try.ntmps44
      go_wp2
      go_ret
      exact ⟨by first | rfl | (simp; done) | (simp [*]; done), by repeat (first | exact Drawn0.refl _ | apply Drawn0.step)⟩

/-! ### laminanum_Is: function 21 -/
def laminanum_Is.f (a0 : Option Int) (a1 : Int) : Option (Bool) := (laminanum_Num.f a0).bind fun t125 => (some (t125 == a1))
set_option maxHeartbeats 8000000 in
set_option maxRecDepth 100000 in
theorem laminanum_Is.calls (a0 : Option Int) (a1 : Int) (r : Bool) (w : World) (h : laminanum_Is.f a0 a1 = some r) :
    Calls Try.prog 21 #[errW a0, .int .i64 a1] w fun e w' => e = .returned (.bool r) ∧ Drawn0 w w' := by
  have H : ((laminanum_Num.f a0).bind fun t125 => (some (t125 == a1))) = some r := h
  clear h
  replace H := Option.bind_eq_some_iff.mp H
  obtain ⟨t125, A30, H⟩ := H
  replace H : (some (t125 == a1)) = some r := H
  have A3 := Aside0.mk A30
  clear A30
  obtain rfl := Option.some.inj H
  have CA3 := fun W => laminanum_Num.calls a0 t125 W A3.out
  try simp only [errW_none, errW_some] at CA3
  go_enter Try.func21, Try.ntmps21
  go_wp2_with (first | (go_at_call 44; (with_reducible refine (CA3 _).mono ?_); rintro e w' ⟨rfl, ⟨nd, rfl⟩⟩))
  go_ret
  exact ⟨by first | rfl | (simp; done) | (simp [*]; done), by repeat (first | exact Drawn0.refl _ | apply Drawn0.step)⟩

end Go.Proofs.Ytibpbihcbgcedaa.Hp
