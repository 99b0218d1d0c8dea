/- Contracts of functions of the given program, and what they lean on: written by this session's own program, out of hand texts laid into the kit's printer. -/
import Derived.Deep.DeepMust
import Derived.Test.YtibpbihcbgcedaaHp0
import Derived.Deep.RegionWith
import Derived.Test.YtibpbihcbgcedaaHg1
namespace Go.Proofs.Ytibpbihcbgcedaa.Hp
open Go.RowKit Go.Proofs.YtibpbihcbgcedaaW.PrintWords Go.Proofs.YtibpbihcbgcedaaW.PrintLast Go.Proofs.YtibpbihcbgcedaaW.PrintMore
attribute [local go_sem] max2_int min2_int max_two min_two max_three min_three max_four min_four   -- for this text's walks alone
set_option linter.unusedVariables false
set_option linter.unusedSimpArgs false

/-! ### laminaref03_Reader_Nums: function 42 -/
theorem laminaref03_Reader_Nums.calls (S : Nat → Prop) (q : Nat) (l : List Int) (bad : Bool) (w : World) (hr : Rm w S q l bad) (hl : l.length < 140737488355328) (hS : ∀ i, S i → i < w.heap.size) :
    Calls Try.prog 42 #[.pointer (some ⟨q, 0, none⟩)] w fun e w' => ∃ v, e = .returned v ∧ Kd.R (Kd.int .i64) 3 w' w.heap.size (fun _ => True) v (numsS l bad).1 ∧ RmTo w w' S q (numsS l bad).2.1 (numsS l bad).2.2 := by
  have HN := Aside0.mk (fun W l' bad' (x : Rm W S q l' bad') (hl' : l'.length < 140737488355328) => laminaref03_Reader_Num.calls S q l' bad' W x hl')
  have HN0 := Aside0.mk (HN.out w l bad hr hl)
  have hf : numsS l bad = if (numS l bad).1 < 0 ∨ (numS l bad).1 > (numS l bad).2.1.length / 8 then ([], [], true) else numsR (numS l bad).1.toNat (numS l bad).2.1 (numS l bad).2.2 := rfl
  have hle := numS_len l bad
  have hpl := hr.lt
  have HR := Aside0.mk hr
  generalize numS l bad = y at *
  obtain ⟨n, l1, b1⟩ := y
  simp only at hf hle HN0
  rw [hf]
  clear hf hr
  by_cases hg : n < 0 ∨ n > (l1.length : Int) / 8
  · rw [if_pos hg]
    by_cases hneg : n < 0
    · clear hg
      go_enter Try.func42, Try.ntmps42
      go_wp2_with fail
      refine HN0.out.mono ?_
      rintro e w1 ⟨rfl, hx⟩
      have HX := Aside0.mk hx
      obtain ⟨⟨A, c, h0⟩, h1, f0, f1, hfin⟩ := rm_bad hx.rm
      have HF := Aside0.mk hfin
      clear hx hfin
      cases b1
      all_goals
        go_wp2
        go_ret
        exact ⟨_, rfl, Kd.R_nil _ _ _ _ _, HX.out.then_ HF.out⟩
    · have hq : (l1.length : Int) / 8 < n := by omega
      have h0' : (0 : Int) ≤ l1.length := by omega
      clear hg
      go_enter Try.func42, Try.ntmps42
      go_wp2_with fail
      refine HN0.out.mono ?_
      rintro e w1 ⟨rfl, hx⟩
      have HX := Aside0.mk hx
      obtain ⟨⟨A, c, h0⟩, h1, f0, f1, hfin⟩ := rm_bad hx.rm
      have HF := Aside0.mk hfin
      clear hx hfin
      cases b1
      all_goals
        go_wp2
        go_ret
        exact ⟨_, rfl, Kd.R_nil _ _ _ _ _, HX.out.then_ HF.out⟩
  · rw [if_neg hg]
    obtain ⟨N, rfl⟩ := Int.eq_ofNat_of_zero_le (show 0 ≤ n by omega)
    have hq : ¬ ((l1.length : Int) / 8 < (N : Int)) := by omega
    have hN : N ≤ 17592186044416 := by omega
    have hneg : ¬ ((N : Int) < 0) := by omega
    have h0' : (0 : Int) ≤ l1.length := by omega
    rw [Int.toNat_natCast]
    clear hg
    cases b1
    case true =>
      go_enter Try.func42, Try.ntmps42
      go_wp2_with fail
      refine HN0.out.mono ?_
      rintro e w1 ⟨rfl, hx⟩
      have HX := Aside0.mk hx
      obtain ⟨⟨A, c, h0⟩, h1, f0, f1, hfin⟩ := rm_bad hx.rm
      have HF := Aside0.mk hfin
      have hz : l1 = [] := by
        obtain ⟨A, c, x⟩ := hx.rm
        exact x.z rfl
      clear hx hfin
      go_wp2
      go_ret
      subst hz
      obtain rfl : N = 0 := by simp at hq; omega
      exact ⟨_, rfl, Kd.R_nil _ _ _ _ _, HX.out.then_ HF.out⟩
    go_enter Try.func42, Try.ntmps42
    go_wp2_with fail
    refine HN0.out.mono ?_
    rintro e w1 ⟨rfl, hx⟩
    have HX := Aside0.mk hx
    obtain ⟨⟨A, c, h0⟩, h1, f0, f1, -⟩ := rm_bad hx.rm
    clear hx
    go_wp2
    clear h0 h1 f0 f1
    go_loopw [4, 5] (fun v4 v5 wr => ∃ k : Nat, k ≤ N ∧ v5 = .int .i64 k ∧ Aside0 (Kd.R (Kd.int .i64) 3 wr w.heap.size (fun _ => True) v4 (numsR k l1 false).1) ∧ Aside0 ((numsR k l1 false).1.length = k) ∧ Aside0 (RmTo w wr S q (numsR k l1 false).2.1 (numsR k l1 false).2.2) ∧ Aside0 ((numsR k l1 false).2.1.length ≤ l1.length)) (fun _ v5 _ => N - (intOf v5).toNat)
    case atStart => exact ⟨0, by omega, rfl, ⟨Kd.R_nil _ _ _ _ _⟩, ⟨rfl⟩, HX, ⟨Nat.le_refl _⟩⟩
    case round =>
      obtain ⟨k, hk, rfl, HO, HL, HK, HLE⟩ := hrel
      obtain ⟨A4, c4, rfl, -⟩ := Kd.R_reads HO.out
      by_cases hlt : k < N
      · have hnx : numsR (k + 1) l1 false = ((numsR k l1 false).1 ++ [(numS (numsR k l1 false).2.1 (numsR k l1 false).2.2).1], (numS (numsR k l1 false).2.1 (numsR k l1 false).2.2).2) := rfl
        have HNX := Aside0.mk hnx
        have HM := Aside0.mk (HN.out wr _ _ HK.out.rm (by have := HLE.out; omega))
        have HLS := Aside0.mk (numS_len (numsR k l1 false).2.1 (numsR k l1 false).2.2)
        clear hnx
        generalize numsR k l1 false = y1 at *
        obtain ⟨ns, l2, b2⟩ := y1
        simp only at HO HL HK HNX HM HLE HLS
        generalize numS l2 b2 = y3 at *
        obtain ⟨x, l3, b3⟩ := y3
        simp only at HNX HM HLS
        go_wp2_with fail
        refine HM.out.mono ?_
        rintro e w2 ⟨rfl, hy⟩
        have HY := Aside0.mk hy
        have HO2 := Aside0.mk (R_only (Kd.R_mono (Kd.R_bound HO.out) (fun i hi => (hi.2.1 : w.heap.size ≤ i))) hy.only (fun i hi hp => by subst hp; omega))
        have hsz2 : w.heap.size ≤ w2.heap.size := (HK.out.only.same hy.only).size
        clear hy
        go_wp2_with (((with_reducible refine gate_builtin (b := .append) (xs := #[.tmp 37, .tmp 40]) rfl ?_); at_builtin; go_must (refine Kd.R_append (Kd.int .i64) (w0 := _) w.heap.size rfl (.tmp 37) (.tmp 40) 29 3 (.int .i64 0) 8 rfl Try.underlying29 info3 rfl (by decide) (by omega) _ ns x [.int .i64 x] (fun i => w.heap.size ≤ i) (fun _ => False) rfl rfl rfl (fun _ h => h.elim) (fun i hi => by omega) (HO2.out) (Below.refl _ _) (hsz2) (by have := HL.out; omega) ?_; intro v3 w3 ho hb hg hat; clear hb hat; obtain ⟨A5, c5, rfl, -⟩ := Kd.R_reads ho; have HO3 := Aside0.mk ho; have HG3 := Aside0.mk hg; clear ho hg)))
        refine ⟨⟨k + 1, by omega, by go_num, ?_, ?_, ?_, ?_⟩, by simp [intOf]; omega⟩
        · rw [HNX.out]
          exact ⟨by simpa using Kd.R_mono HO3.out (fun _ _ => trivial)⟩
        · rw [HNX.out]
          exact ⟨by simp [HL.out]⟩
        · rw [HNX.out]
          have og : Only w2 w3 (fun i => w.heap.size ≤ i) := Only.of_grown HG3.out (fun i hi => HO2.out.1 i hi)
          exact ⟨⟨HY.out.rm.only og (fun i hi => by have := hS i hi; omega) (by omega), (HK.out.only.same HY.out.only).then_ og (fun i hi => .inr hi)⟩⟩
        · rw [HNX.out]
          exact ⟨by have := HLE.out; have := HLS.out; simp only; omega⟩
      · obtain rfl : k = N := by omega
        go_wp2
        go_ret
        exact ⟨_, rfl, HO.out, HK.out⟩

/-! ### laminalaw03_read: function 18 -/
theorem read_byte (S : Nat → Prop) (h : Value) (l : List Int) (bad : Bool) (S2 : Nat → Prop) (q : Nat) (l2 : List Int) (bad2 : Bool) (kind : Int) (w : World) (hr : Rd w S h l bad) (hm : Rm w S2 q l2 bad2) (a1 : ¬ S q) (a2 : ¬ Pt h q) (a3 : ∀ i, S2 i → ¬ Pt h i) (a4 : ∀ i, S2 i → ¬ S i) (a5 : ∀ i, S i → i < w.heap.size) (a6 : ∀ i, S2 i → i < w.heap.size) (hl : l.length ≤ 1000000) (hl2 : l2.length ≤ 1000000) (hk : kind = 0) :
    Calls Try.prog 18 #[h, .pointer (some ⟨q, 0, none⟩), .int .i64 kind] w fun e w' => ∃ b, e = .returned (.bool b) ∧ ReadOk b l l2 bad bad2 ∧ ReadTo w w' S h (byteS l bad).2 S2 q (byteS l2 bad2).2 := by
  have HR := Aside0.mk hr
  have HM := Aside0.mk hm
  subst hk
  clear hr hm
  go_enter Try.func18, Try.ntmps18
  go_wp2_with fail
  refine (wire_Reader_Byte.calls S h l bad _ HR.out).mono ?_
  rintro e w1 ⟨rfl, hx⟩
  have HX := Aside0.mk hx
  have hm1 := HM.out.only hx.only a3 a2
  clear hx
  go_wp2_with fail
  refine (laminaref03_Reader_Byte.calls S2 q l2 bad2 _ hm1 (by omega)).mono ?_
  rintro e w2 ⟨rfl, hy⟩
  have HY := Aside0.mk hy
  clear hy hm1
  have hq : l = l2 ∧ bad = bad2 → ((byteS l bad).1 == (byteS l2 bad2).1) = true := by rintro ⟨rfl, rfl⟩; simp
  have HQ := Aside0.mk hq
  clear hq
  go_wp2
  go_ret
  exact ⟨_, rfl, HQ.out, ReadTo.mk_ HX.out HY.out a1 a2⟩
theorem read_num (S : Nat → Prop) (h : Value) (l : List Int) (bad : Bool) (S2 : Nat → Prop) (q : Nat) (l2 : List Int) (bad2 : Bool) (kind : Int) (w : World) (hr : Rd w S h l bad) (hm : Rm w S2 q l2 bad2) (a1 : ¬ S q) (a2 : ¬ Pt h q) (a3 : ∀ i, S2 i → ¬ Pt h i) (a4 : ∀ i, S2 i → ¬ S i) (a5 : ∀ i, S i → i < w.heap.size) (a6 : ∀ i, S2 i → i < w.heap.size) (hl : l.length ≤ 1000000) (hl2 : l2.length ≤ 1000000) (h0 : ¬ kind = 0) (h2 : ¬ kind = 2) (h3 : ¬ kind = 3) (h4 : ¬ kind = 4) (h5 : ¬ kind = 5) :
    Calls Try.prog 18 #[h, .pointer (some ⟨q, 0, none⟩), .int .i64 kind] w fun e w' => ∃ b, e = .returned (.bool b) ∧ ReadOk b l l2 bad bad2 ∧ ReadTo w w' S h (numS l bad).2 S2 q (numS l2 bad2).2 := by
  have HR := Aside0.mk hr
  have HM := Aside0.mk hm
  have k0 : (kind == 0) = false := by rw [beq_eq_false_iff_ne]; omega
  have k2 : (kind == 2) = false := by rw [beq_eq_false_iff_ne]; omega
  have k3 : (kind == 3) = false := by rw [beq_eq_false_iff_ne]; omega
  have k4 : (kind == 4) = false := by rw [beq_eq_false_iff_ne]; omega
  have k5 : (kind == 5) = false := by rw [beq_eq_false_iff_ne]; omega
  clear hr hm
  go_enter Try.func18, Try.ntmps18
  go_wp2_with fail
  refine (wire_Reader_Num.calls S h l bad _ HR.out).mono ?_
  rintro e w1 ⟨rfl, hx⟩
  have HX := Aside0.mk hx
  have hm1 := HM.out.only hx.only a3 a2
  clear hx
  go_wp2_with fail
  refine (laminaref03_Reader_Num.calls S2 q l2 bad2 _ hm1 (by omega)).mono ?_
  rintro e w2 ⟨rfl, hy⟩
  have HY := Aside0.mk hy
  clear hy hm1
  have hq : l = l2 ∧ bad = bad2 → ((numS l bad).1 == (numS l2 bad2).1) = true := by rintro ⟨rfl, rfl⟩; simp
  have HQ := Aside0.mk hq
  clear hq
  go_wp2
  go_ret
  exact ⟨_, rfl, HQ.out, ReadTo.mk_ HX.out HY.out a1 a2⟩
theorem read_flag (S : Nat → Prop) (h : Value) (l : List Int) (bad : Bool) (S2 : Nat → Prop) (q : Nat) (l2 : List Int) (bad2 : Bool) (kind : Int) (w : World) (hr : Rd w S h l bad) (hm : Rm w S2 q l2 bad2) (a1 : ¬ S q) (a2 : ¬ Pt h q) (a3 : ∀ i, S2 i → ¬ Pt h i) (a4 : ∀ i, S2 i → ¬ S i) (a5 : ∀ i, S i → i < w.heap.size) (a6 : ∀ i, S2 i → i < w.heap.size) (hl : l.length ≤ 1000000) (hl2 : l2.length ≤ 1000000) (hk : kind = 2) :
    Calls Try.prog 18 #[h, .pointer (some ⟨q, 0, none⟩), .int .i64 kind] w fun e w' => ∃ b, e = .returned (.bool b) ∧ ReadOk b l l2 bad bad2 ∧ ReadTo w w' S h (flagS l bad).2 S2 q (flagS l2 bad2).2 := by
  have HR := Aside0.mk hr
  have HM := Aside0.mk hm
  subst hk
  clear hr hm
  go_enter Try.func18, Try.ntmps18
  go_wp2_with fail
  refine (wire_Reader_Flag.calls S h l bad _ HR.out).mono ?_
  rintro e w1 ⟨rfl, hx⟩
  have HX := Aside0.mk hx
  have hm1 := HM.out.only hx.only a3 a2
  clear hx
  go_wp2_with fail
  refine (laminaref03_Reader_Flag.calls S2 q l2 bad2 _ hm1 (by omega)).mono ?_
  rintro e w2 ⟨rfl, hy⟩
  have HY := Aside0.mk hy
  clear hy hm1
  have h1 := (rm_bad HY.out.rm).2.1
  have hq : l = l2 ∧ bad = bad2 → ((flagS l bad).1 == ((flagS l2 bad2).1 && !(flagS l2 bad2).2.2)) = true := by
    rintro ⟨rfl, rfl⟩
    have := flagS_bad l bad
    rcases hf : flagS l bad with ⟨x, y, z⟩
    rw [hf] at this
    cases x <;> cases z <;> simp_all
  have HQ := Aside0.mk hq
  clear hq
  obtain ⟨y2, hy2⟩ : ∃ y2, y2 = flagS l2 bad2 := ⟨_, rfl⟩
  obtain ⟨y1, hy1⟩ : ∃ y1, y1 = flagS l bad := ⟨_, rfl⟩
  have hto := ReadTo.mk_ HX.out HY.out a1 a2
  have HTO : Aside0 (ReadTo w w2 S h (flagS l bad).2 S2 q (flagS l2 bad2).2) := ⟨hto⟩
  clear hto
  rw [← hy1, ← hy2] at HQ
  rw [← hy1, ← hy2]
  rw [← hy2] at h1
  clear hy1 hy2
  obtain ⟨b2, l3, d2⟩ := y2
  obtain ⟨b1, l4, d1⟩ := y1
  cases b2 <;> cases d2 <;> cases b1
  all_goals
    go_wp2
    go_ret
    exact ⟨_, rfl, by first | exact HQ.out | simpa using HQ.out, HTO.out⟩
theorem read_text (S : Nat → Prop) (h : Value) (l : List Int) (bad : Bool) (S2 : Nat → Prop) (q : Nat) (l2 : List Int) (bad2 : Bool) (kind : Int) (w : World) (hr : Rd w S h l bad) (hm : Rm w S2 q l2 bad2) (a1 : ¬ S q) (a2 : ¬ Pt h q) (a3 : ∀ i, S2 i → ¬ Pt h i) (a4 : ∀ i, S2 i → ¬ S i) (a5 : ∀ i, S i → i < w.heap.size) (a6 : ∀ i, S2 i → i < w.heap.size) (hl : l.length ≤ 1000000) (hl2 : l2.length ≤ 1000000) (hk : kind = 4) :
    Calls Try.prog 18 #[h, .pointer (some ⟨q, 0, none⟩), .int .i64 kind] w fun e w' => ∃ b, e = .returned (.bool b) ∧ ReadOk b l l2 bad bad2 ∧ ReadTo w w' S h (bytesS l bad).2 S2 q (bytesS l2 bad2).2 := by
  have HR := Aside0.mk hr
  have HM := Aside0.mk hm
  subst hk
  clear hr hm
  go_enter Try.func18, Try.ntmps18
  go_wp2_with fail
  refine (wire_Reader_Text.calls S h l bad _ HR.out).mono ?_
  rintro e w1 ⟨rfl, hx⟩
  have HX := Aside0.mk hx
  have hm1 := HM.out.only hx.only a3 a2
  clear hx
  go_wp2_with fail
  refine (laminaref03_Reader_Bytes.calls S2 q l2 bad2 _ hm1 (by omega)).mono ?_
  rintro e w2 ⟨v2, rfl, ho, hy⟩
  have HY := Aside0.mk hy
  clear hy hm1
  obtain ⟨A2, c2, rfl, -⟩ := Kd.R_reads ho
  have hcv := Kd.C_string (P := Try.prog) (A := A2) (c := c2) Try.underlying26 Try.underlying5 Try.underlying9 (Kd.R_reads' ho).2.2
  clear ho
  have hq : l = l2 ∧ bad = bad2 → ((strOfNums (bytesS l bad).1).toList == (strOfNums (bytesS l2 bad2).1).toList) = true := by rintro ⟨rfl, rfl⟩; simp
  have HQ := Aside0.mk hq
  clear hq
  go_wp2
  go_ret
  exact ⟨_, rfl, by first | exact HQ.out | simpa using HQ.out, ReadTo.mk_ HX.out HY.out a1 a2⟩
theorem read_nums (S : Nat → Prop) (h : Value) (l : List Int) (bad : Bool) (S2 : Nat → Prop) (q : Nat) (l2 : List Int) (bad2 : Bool) (kind : Int) (w : World) (hr : Rd w S h l bad) (hm : Rm w S2 q l2 bad2) (a1 : ¬ S q) (a2 : ¬ Pt h q) (a3 : ∀ i, S2 i → ¬ Pt h i) (a4 : ∀ i, S2 i → ¬ S i) (a5 : ∀ i, S i → i < w.heap.size) (a6 : ∀ i, S2 i → i < w.heap.size) (hl : l.length ≤ 1000000) (hl2 : l2.length ≤ 1000000) (hk : kind = 5) :
    Calls Try.prog 18 #[h, .pointer (some ⟨q, 0, none⟩), .int .i64 kind] w fun e w' => ∃ b, e = .returned (.bool b) ∧ ReadOk b l l2 bad bad2 ∧ ReadTo w w' S h (numsS l bad).2 S2 q (numsS l2 bad2).2 := by
  have HR := Aside0.mk hr
  have HM := Aside0.mk hm
  subst hk
  have hnl := numsS_len l bad
  clear hr hm
  go_enter Try.func18, Try.ntmps18
  go_wp2_with fail
  refine (wire_Reader_Nums.calls S h l bad _ HR.out a5 (by omega)).mono ?_
  rintro e w1 ⟨v1, rfl, hp, hx⟩
  have HX := Aside0.mk hx
  have hm1 := HM.out.only hx.only a3 a2
  clear hx
  go_wp2_with fail
  refine (laminaref03_Reader_Nums.calls S2 q l2 bad2 _ hm1 (by omega) (fun i hi => Nat.lt_of_lt_of_le (a6 i hi) HX.out.only.size)).mono ?_
  rintro e w2 ⟨v2, rfl, ho, hy⟩
  have HY := Aside0.mk hy
  clear hy hm1
  obtain ⟨A2, c2, rfl, -⟩ := Kd.R_reads ho
  have hp1 := Kd.R_only_lt hp HY.out.only (fun i h1 h2 => by have := HM.out.lt; omega)
  obtain ⟨A1, c1, rfl, -⟩ := Kd.R_reads hp1
  obtain ⟨b, hb, hbt⟩ := ints_some (numsS l bad).1 (numsS l2 bad2).1 (by omega)
  have HI := Aside0.mk (laminanum_Ints.calls _ A1 c1 _ A2 c2 _ b w2 (Kd.R_reads' hp1).2.2 (Kd.R_reads' hp1).2.1 (Kd.R_reads' ho).2.2 (Kd.R_reads' ho).2.1 hb)
  clear ho hp1 hp
  go_wp2_with fail
  refine HI.out.mono ?_
  rintro e w3 ⟨rfl, ⟨n3, rfl⟩⟩
  go_wp2
  go_ret
  refine ⟨_, rfl, fun hh => hbt (by rw [hh.1, hh.2]), (ReadTo.mk_ HX.out HY.out a1 a2).below (pw_below_drewN (Below.refl _ _) _)⟩
theorem read_bytes (S : Nat → Prop) (h : Value) (l : List Int) (bad : Bool) (S2 : Nat → Prop) (q : Nat) (l2 : List Int) (bad2 : Bool) (kind : Int) (w : World) (hr : Rd w S h l bad) (hm : Rm w S2 q l2 bad2) (a1 : ¬ S q) (a2 : ¬ Pt h q) (a3 : ∀ i, S2 i → ¬ Pt h i) (a4 : ∀ i, S2 i → ¬ S i) (a5 : ∀ i, S i → i < w.heap.size) (a6 : ∀ i, S2 i → i < w.heap.size) (hl : l.length ≤ 1000000) (hl2 : l2.length ≤ 1000000) (hk : kind = 3) :
    Calls Try.prog 18 #[h, .pointer (some ⟨q, 0, none⟩), .int .i64 kind] w fun e w' => ∃ b, e = .returned (.bool b) ∧ ReadOk b l l2 bad bad2 ∧ ReadTo w w' S h (bytesS l bad).2 S2 q (bytesS l2 bad2).2 := by
  have HR := Aside0.mk hr
  have HM := Aside0.mk hm
  subst hk
  clear hr hm
  go_enter Try.func18, Try.ntmps18
  go_wp2_with fail
  refine (wire_Reader_Bytes.calls S h l bad _ HR.out).mono ?_
  rintro e w1 ⟨A, c, rfl, hc, hx0⟩
  have X := Aside0.mk hx0
  have hx := hx0.rdto
  clear hx0
  have HX := Aside0.mk hx
  have hm1 := HM.out.only hx.only a3 a2
  clear hx
  go_wp2_with fail
  refine (laminaref03_Reader_Bytes.calls S2 q l2 bad2 _ hm1 (by omega)).mono ?_
  rintro e w2 ⟨v2, rfl, ho, hy⟩
  have HY := Aside0.mk hy
  clear hy hm1
  have hrow := X.out.row.only HY.out.only (fun i hi e => by subst e; exact a1 hi)
  have hnf := X.out.nf.only X.out.row HY.out.only (fun i hi e => by subst e; exact a1 hi)
  have hst := X.out.stab.only HY.out.only (fun i hi e => by subst e; exact a1 hi) (fun i hi e => by subst e; exact a2 hi)
  obtain ⟨A2, c2, rfl, -⟩ := Kd.R_reads ho
  have HSM := Aside0.mk (laminanum_Same.calls A c (bytesS l bad).1 A2 c2 (bytesS l2 bad2).1 _ w2 hrow.row hc (Kd.R_reads' ho).2.2 (Kd.R_reads' ho).2.1 rfl)
  have HROW := Aside0.mk hrow
  have HNF := Aside0.mk hnf
  have HST := Aside0.mk hst
  have hq : l = l2 ∧ bad = bad2 → ((strOfNums (bytesS l bad).1).toList == (strOfNums (bytesS l2 bad2).1).toList) = true := by rintro ⟨rfl, rfl⟩; simp
  have HQ := Aside0.mk hq
  clear ho hrow hnf hst hq
  generalize ((strOfNums (bytesS l bad).1).toList == (strOfNums (bytesS l2 bad2).1).toList) = bq at *
  go_wp2_with fail
  refine HSM.out.mono ?_
  rintro e w3 ⟨rfl, ⟨n3, rfl⟩⟩
  have hb3 := pw_below_drewN (Below.refl w2.heap.size w2) n3
  have HROW3 := Aside0.mk (HROW.out.below hb3)
  have HOV := Aside0.mk (laminanum_Over.seg S A c (bytesS l bad).1 _ HROW3.out (HNF.out.only HROW.out (Only.of_below hb3 (fun _ => False)) (fun _ _ h => h)))
  clear hb3
  go_wp2_with fail
  refine HOV.out.mono ?_
  rintro e w4 ⟨rfl, sg⟩
  have SG := Aside0.mk sg
  clear sg
  go_wp2
  go_ret
  have hb3 := pw_below_drewN (Below.refl w2.heap.size w2) n3
  have og := SG.out.only HROW3.out
  refine ⟨_, rfl, HQ.out, (HST.out.only (Only.of_below hb3 (fun _ => False)) (fun _ _ h => h) (fun _ _ h => h)).seg SG.out, (HY.out.rm.below hb3).only og a4 a1, ?_⟩
  exact (((HX.out.only.mono (fun i hi => .inl hi)).same (HY.out.only.mono (fun i hi => .inr (.inl hi)))).below_ hb3).same (og.mono (fun i hi => .inr (.inr hi)))
theorem laminalaw03_read.calls (S : Nat → Prop) (h : Value) (l : List Int) (bad : Bool) (S2 : Nat → Prop) (q : Nat) (l2 : List Int) (bad2 : Bool) (kind : Int) (w : World) (hr : Rd w S h l bad) (hm : Rm w S2 q l2 bad2) (a1 : ¬ S q) (a2 : ¬ Pt h q) (a3 : ∀ i, S2 i → ¬ Pt h i) (a4 : ∀ i, S2 i → ¬ S i) (a5 : ∀ i, S i → i < w.heap.size) (a6 : ∀ i, S2 i → i < w.heap.size) (hl : l.length ≤ 1000000) (hl2 : l2.length ≤ 1000000) :
    Calls Try.prog 18 #[h, .pointer (some ⟨q, 0, none⟩), .int .i64 kind] w fun e w' => ∃ b, e = .returned (.bool b) ∧ ReadOk b l l2 bad bad2 ∧ ReadTo w w' S h (rdS kind l bad) S2 q (rdS kind l2 bad2) := by
  by_cases h0 : kind = 0
  · have e : ∀ l bad, rdS kind l bad = (byteS l bad).2 := fun l bad => by unfold rdS; rw [if_pos h0]
    rw [e, e]
    exact read_byte S h l bad S2 q l2 bad2 kind w hr hm a1 a2 a3 a4 a5 a6 hl hl2 h0
  by_cases h2 : kind = 2
  · have e : ∀ l bad, rdS kind l bad = (flagS l bad).2 := fun l bad => by unfold rdS; rw [if_neg h0, if_pos h2]
    rw [e, e]
    exact read_flag S h l bad S2 q l2 bad2 kind w hr hm a1 a2 a3 a4 a5 a6 hl hl2 h2
  by_cases h3 : kind = 3
  · have e : ∀ l bad, rdS kind l bad = (bytesS l bad).2 := fun l bad => by unfold rdS; rw [if_neg h0, if_neg h2, if_pos h3]
    rw [e, e]
    exact read_bytes S h l bad S2 q l2 bad2 kind w hr hm a1 a2 a3 a4 a5 a6 hl hl2 h3
  by_cases h4 : kind = 4
  · have e : ∀ l bad, rdS kind l bad = (bytesS l bad).2 := fun l bad => by unfold rdS; rw [if_neg h0, if_neg h2, if_neg h3, if_pos h4]
    rw [e, e]
    exact read_text S h l bad S2 q l2 bad2 kind w hr hm a1 a2 a3 a4 a5 a6 hl hl2 h4
  by_cases h5 : kind = 5
  · have e : ∀ l bad, rdS kind l bad = (numsS l bad).2 := fun l bad => by unfold rdS; rw [if_neg h0, if_neg h2, if_neg h3, if_neg h4, if_pos h5]
    rw [e, e]
    exact read_nums S h l bad S2 q l2 bad2 kind w hr hm a1 a2 a3 a4 a5 a6 hl hl2 h5
  · have e : ∀ l bad, rdS kind l bad = (numS l bad).2 := fun l bad => by unfold rdS; rw [if_neg h0, if_neg h2, if_neg h3, if_neg h4, if_neg h5]
    rw [e, e]
    exact read_num S h l bad S2 q l2 bad2 kind w hr hm a1 a2 a3 a4 a5 a6 hl hl2 h0 h2 h3 h4 h5

-- AUX plain3
theorem emod_step (n P : Int) (hP : 0 < P) : n % (256 * P) = n % P + n / P % 256 * P := by
  have h1 := Int.mul_ediv_add_emod n P
  have h2 := Int.mul_ediv_add_emod (n / P) 256
  have h3 := Int.emod_nonneg n (show P ≠ 0 by omega)
  have h4 := Int.emod_lt_of_pos n hP
  have h5 : 0 ≤ n / P % 256 := by omega
  have h6 : n / P % 256 ≤ 255 := by omega
  generalize n / P % 256 = r at *
  have e : n = (n % P + r * P) + 256 * P * (n / P / 256) := by
    have : P * (n / P) = P * (256 * (n / P / 256)) + P * r := by rw [← Int.mul_add, h2]
    have e2 : 256 * P * (n / P / 256) = P * (256 * (n / P / 256)) := by rw [Int.mul_comm 256 P, Int.mul_assoc]
    rw [e2, Int.mul_comm r P]
    omega
  have h7 : r * P ≤ 255 * P := Int.mul_le_mul_of_nonneg_right h6 (by omega)
  have h8 : 0 ≤ r * P := Int.mul_nonneg h5 (by omega)
  rw [e, Int.add_mul_emod_self_left, Int.emod_eq_of_lt (by omega) (by omega), ← e]
theorem sumN_num (n : Int) : ∀ k : Nat, k ≤ 8 → sumN (numL n) k = n % 2 ^ (8 * k) := by
  intro k
  induction k with
  | zero => intro _; simp [sumN]
  | succ k ih =>
    intro hk
    have hr : rd (numL n) (k : Int) = n / 2 ^ (8 * k) % 256 := by simp [rd, numL, show k < 8 by omega]
    have hp : (2 : Int) ^ (8 * (k + 1)) = 256 * 2 ^ (8 * k) := by rw [show 8 * (k + 1) = 8 + 8 * k by omega, Int.pow_add]; rfl
    rw [sumN, ih (by omega), hr, hp, emod_step n _ (Int.pow_pos (by decide))]
theorem unL_num (n : Int) (h1 : -9223372036854775808 ≤ n) (h2 : n ≤ 9223372036854775807) : unL (numL n) = n := by
  unfold unL
  rw [sumN_num n 8 (by omega), show (2 : Int) ^ (8 * 8) = 18446744073709551616 by decide]
  unfold wrap64
  omega
theorem tk_app (b r : List Int) (n : Int) (hn : n = b.length) : tkS n (b ++ r) false = some (b, r) := by
  subst hn
  unfold tkS
  rw [if_pos ⟨rfl, by omega, by simp; omega⟩, Int.toNat_natCast, List.take_left, List.drop_left]
theorem num_back (n : Int) (r : List Int) (h1 : -9223372036854775808 ≤ n) (h2 : n ≤ 9223372036854775807) : numS (numL n ++ r) false = (n, r, false) := by
  unfold numS
  rw [tk_app (numL n) r 8 (by rw [numL_len]; rfl)]
  simp only [unL_num n h1 h2]
theorem byte_back (x : Int) (r : List Int) : byteS ([x] ++ r) false = (x, r, false) := by
  unfold byteS
  rw [tk_app [x] r 1 rfl]
  rfl
theorem flag_back (b : Bool) (r : List Int) : flagS ([if b = true then 1 else 0] ++ r) false = (b, r, false) := by
  unfold flagS
  rw [byte_back]
  cases b <;> rfl
theorem bytes_back (B r : List Int) (hB : B.length ≤ 9223372036854775807) : bytesS ((numL B.length ++ B) ++ r) false = (B, r, false) := by
  unfold bytesS
  rw [List.append_assoc, num_back _ _ (by omega) (by omega)]
  simp only
  rw [tk_app B r _ rfl]
theorem numsR_back (ns r : List Int) (hb : ∀ x ∈ ns, -9223372036854775808 ≤ x ∧ x ≤ 9223372036854775807) : ∀ k : Nat, k ≤ ns.length → numsR k (numsL ns ++ r) false = (ns.take k, numsL (ns.drop k) ++ r, false) := by
  intro k
  induction k with
  | zero => intro _; simp [numsR]
  | succ k ih =>
    intro hk
    have e : numsL (ns.drop k) = numL ns[k] ++ numsL (ns.drop (k + 1)) := by rw [List.drop_eq_getElem_cons (show k < ns.length by omega)]; rfl
    have hx := hb _ (List.getElem_mem (show k < ns.length by omega))
    simp only [numsR]
    rw [ih (by omega)]
    simp only
    rw [e, List.append_assoc, num_back _ _ hx.1 hx.2, List.take_succ_eq_append_getElem (show k < ns.length by omega)]
theorem nums_back (ns r : List Int) (hb : ∀ x ∈ ns, -9223372036854775808 ≤ x ∧ x ≤ 9223372036854775807) (hl : ns.length ≤ 1000000) : numsS ((numL ns.length ++ numsL ns) ++ r) false = (ns, r, false) := by
  unfold numsS
  rw [List.append_assoc, num_back _ _ (by omega) (by omega)]
  simp only
  rw [if_neg (by rw [List.length_append, numsL_len]; omega), Int.toNat_natCast, numsR_back ns r hb _ (Nat.le_refl _), List.take_length, List.drop_length]
  rfl
theorem tk_more {n : Int} {p b r : List Int} (s : List Int) (h : tkS n p false = some (b, r)) : tkS n (p ++ s) false = some (b, r ++ s) := by
  obtain ⟨_, h1, h2, rfl, rfl⟩ := tkS_some h
  unfold tkS
  rw [if_pos ⟨rfl, h1, by rw [List.length_append]; omega⟩, List.take_append_of_le_length (by omega), List.drop_append_of_le_length (by omega)]
theorem num_more {p r : List Int} {x : Int} (s : List Int) (h : numS p false = (x, r, false)) : numS (p ++ s) false = (x, r ++ s, false) := by
  unfold numS at h ⊢
  rcases ht : tkS 8 p false with _ | ⟨b, r'⟩
  · rw [ht] at h; simp at h
  · rw [ht] at h
    simp only [Prod.mk.injEq, and_true] at h
    rw [tk_more s ht]
    simp only [h.1, h.2]
theorem byte_more {p r : List Int} {x : Int} (s : List Int) (h : byteS p false = (x, r, false)) : byteS (p ++ s) false = (x, r ++ s, false) := by
  unfold byteS at h ⊢
  rcases ht : tkS 1 p false with _ | ⟨b, r'⟩
  · rw [ht] at h; simp at h
  · rw [ht] at h
    simp only [Prod.mk.injEq, and_true] at h
    rw [tk_more s ht]
    simp only [h.1, h.2]
theorem flag_more {p r : List Int} {x : Bool} (s : List Int) (h : flagS p false = (x, r, false)) : flagS (p ++ s) false = (x, r ++ s, false) := by
  unfold flagS at h
  rcases hb : byteS p false with ⟨y, r', bd⟩
  rw [hb] at h
  simp only at h
  split at h
  · simp at h
  · rename_i hg
    simp only [Prod.mk.injEq] at h
    obtain ⟨h1, rfl, rfl⟩ := h
    unfold flagS
    rw [byte_more s hb]
    simp only
    rw [if_neg hg, h1]
theorem bytes_more {p b r : List Int} (s : List Int) (h : bytesS p false = (b, r, false)) : bytesS (p ++ s) false = (b, r ++ s, false) := by
  unfold bytesS at h
  rcases hn : numS p false with ⟨n, r', bd⟩
  rw [hn] at h
  simp only at h
  rcases ht : tkS n r' bd with _ | ⟨b', r2⟩
  · rw [ht] at h; simp at h
  · rw [ht] at h
    simp only [Prod.mk.injEq, and_true] at h
    obtain rfl := (tkS_some ht).1
    unfold bytesS
    rw [num_more s hn]
    simp only
    rw [tk_more s ht]
    simp only [h.1, h.2]
theorem numsR_bad : ∀ k, (numsR k [] true).2 = ([], true) := by
  intro k
  induction k with
  | zero => rfl
  | succ k ih =>
    simp only [numsR]
    rcases h : numsR k [] true with ⟨a, b, c⟩
    rw [h] at ih
    simp only at ih
    injection ih with h1 h2
    subst h1
    subst h2
    rfl
theorem numsR_more {p : List Int} (s : List Int) : ∀ (k : Nat) (ns r : List Int), numsR k p false = (ns, r, false) → numsR k (p ++ s) false = (ns, r ++ s, false) := by
  intro k
  induction k with
  | zero =>
    intro ns r h
    simp only [numsR, Prod.mk.injEq, and_true] at h ⊢
    exact ⟨h.1, by rw [h.2]⟩
  | succ k ih =>
    intro ns r h
    rcases hk : numsR k p false with ⟨a, b, c⟩
    simp only [numsR, hk] at h
    cases c
    · rcases hn : numS b false with ⟨x, r', bd⟩
      rw [hn] at h
      simp only [Prod.mk.injEq] at h
      obtain ⟨h1, rfl, rfl⟩ := h
      simp only [numsR]
      rw [ih a b hk]
      simp only
      rw [num_more s hn, h1]
    · have hz : numS b true = (0, [], true) := by unfold numS tkS; rw [if_neg (by simp)]
      rw [hz] at h
      simp at h
theorem nums_more {p ns r : List Int} (s : List Int) (h : numsS p false = (ns, r, false)) : numsS (p ++ s) false = (ns, r ++ s, false) := by
  unfold numsS at h
  rcases hn : numS p false with ⟨n, r', bd⟩
  rw [hn] at h
  simp only at h
  split at h
  · simp at h
  · rename_i hg
    cases bd
    · unfold numsS
      rw [num_more s hn]
      simp only
      rw [if_neg (by rw [List.length_append]; omega)]
      exact numsR_more s _ _ _ h
    · have hz : numS p false = (0, [], true) := by
        unfold numS at hn ⊢
        rcases ht : tkS 8 p false with _ | ⟨b, r2⟩
        · rfl
        · rw [ht] at hn; simp at hn
      rw [hz] at hn
      simp only [Prod.mk.injEq, and_true] at hn
      rw [← hn.1, ← hn.2] at h
      simp [numsR] at h
theorem rdS_more (kind : Int) {p r : List Int} (s : List Int) (h : rdS kind p false = (r, false)) : rdS kind (p ++ s) false = (r ++ s, false) := by
  unfold rdS at h ⊢
  split
  · rename_i hk
    rw [if_pos hk] at h
    rcases hb : byteS p false with ⟨x, y⟩
    rw [hb] at h
    simp only at h
    subst h
    rw [byte_more s hb]
  rename_i h0
  rw [if_neg h0] at h
  split
  · rename_i hk
    rw [if_pos hk] at h
    rcases hb : flagS p false with ⟨x, y⟩
    rw [hb] at h
    simp only at h
    subst h
    rw [flag_more s hb]
  rename_i h2
  rw [if_neg h2] at h
  split
  · rename_i hk
    rw [if_pos hk] at h
    rcases hb : bytesS p false with ⟨x, y⟩
    rw [hb] at h
    simp only at h
    subst h
    rw [bytes_more s hb]
  rename_i h3
  rw [if_neg h3] at h
  split
  · rename_i hk
    rw [if_pos hk] at h
    rcases hb : bytesS p false with ⟨x, y⟩
    rw [hb] at h
    simp only at h
    subst h
    rw [bytes_more s hb]
  rename_i h4
  rw [if_neg h4] at h
  split
  · rename_i hk
    rw [if_pos hk] at h
    rcases hb : numsS p false with ⟨x, y⟩
    rw [hb] at h
    simp only at h
    subst h
    rw [nums_more s hb]
  · rename_i h5
    rw [if_neg h5] at h
    rcases hb : numS p false with ⟨x, y⟩
    rw [hb] at h
    simp only at h
    subst h
    rw [num_more s hb]
theorem rdS_val (kind n : Int) (B Ns r : List Int) (hn : -9223372036854775808 ≤ n ∧ n ≤ 9223372036854775807) (hB : B.length ≤ 1000) (hN : Ns.length ≤ 1000) (hNb : ∀ x ∈ Ns, -9223372036854775808 ≤ x ∧ x ≤ 9223372036854775807) : rdS kind (valL kind n B Ns ++ r) false = (r, false) := by
  unfold rdS valL
  split
  · rw [byte_back]
  split
  · have := flag_back (decide (n = 1)) r
    simp only [decide_eq_true_eq] at this
    rw [this]
  split
  · rw [bytes_back _ _ (by omega)]
  split
  · rw [bytes_back _ _ (by omega)]
  split
  · rw [nums_back _ _ hNb (by omega)]
  · rw [num_back _ _ hn.1 hn.2]

-- AUX badw
theorem rdS_bad (kind : Int) : rdS kind [] true = ([], true) := by
  unfold rdS
  repeat' split
  all_goals rfl

/-! ### laminanum_Num: function 44 -/
def laminanum_Num.f (a0 : Option Int) : Option (Int) := if a0.isNone = true then (some 0) else (if (a0.getD 0) = 0 then (some (-1)) else (some (a0.getD 0)))
set_option maxHeartbeats 8000000 in
set_option maxRecDepth 100000 in
theorem laminanum_Num.calls (a0 : Option Int) (r : Int) (w : World) (h : laminanum_Num.f a0 = some r) :
    Calls Try.prog 44 #[errW a0] w fun e w' => e = .returned (.int .i64 r) ∧ Drawn0 w w' := by
  have hu46 := Try.underlying46
  have hu49 := Try.underlying49
  have hta : ∀ (v : Value) (W : World), (Instr.typeAssert (.iface 49 v) 46 49 true).run Try.prog W = .ok (.tuple #[v, .bool true]) W := fun v W => by rfl
  have H : (if a0.isNone = true then (some 0) else (if (a0.getD 0) = 0 then (some (-1)) else (some (a0.getD 0)))) = some r := h
  clear h
  rcases a0 with _ | q124
  · have H1 : (some 0) = some r := by rw [if_pos (show (none : Option Int).isNone = true by rfl)] at H; exact H
    clear H
    have H := H1
    clear H1
    simp only [errW_none, errW_some]
    obtain rfl := Option.some.inj H
    go_enter Try.func44, Try.ntmps44
    go_wp2
    go_ret
    exact ⟨by first | rfl | (simp; done) | (simp [*]; done), by repeat (first | exact Drawn0.refl _ | apply Drawn0.step)⟩
  · have H1 : (if q124 = 0 then (some (-1)) else (some q124)) = some r := by rw [if_neg (show ¬ (some q124).isNone = true by simp)] at H; exact H
    clear H
    have H := H1
    clear H1
    simp only [errW_none, errW_some]
    by_cases c2 : q124 = 0
    · rw [if_pos c2] at H
      have c2b0 : (q124 == 0) = true := beq_iff_eq.mpr c2
      have c2b1 : (q124 != 0) = false := bne_eq_false_iff_eq.mpr c2
      clear c2
      obtain rfl := Option.some.inj H
      go_enter Try.func44, Try.ntmps44
      go_wp2
      go_ret
      exact ⟨by first | rfl | (simp; done) | (simp [*]; done), by repeat (first | exact Drawn0.refl _ | apply Drawn0.step)⟩
    · rw [if_neg c2] at H
      have c2b0 : (q124 == 0) = false := beq_eq_false_iff_ne.mpr c2
      have c2b1 : (q124 != 0) = true := bne_iff_ne.mpr c2
      obtain rfl := Option.some.inj H
      go_enter Try.func44, Try.ntmps44
      go_wp2
      go_ret
      exact ⟨by first | rfl | (simp; done) | (simp [*]; done), by repeat (first | exact Drawn0.refl _ | apply Drawn0.step)⟩

/-! ### laminanum_Is: function 21 -/
def laminanum_Is.f (a0 : Option Int) (a1 : Int) : Option (Bool) := (laminanum_Num.f a0).bind fun t125 => (some (t125 == a1))
set_option maxHeartbeats 8000000 in
set_option maxRecDepth 100000 in
theorem laminanum_Is.calls (a0 : Option Int) (a1 : Int) (r : Bool) (w : World) (h : laminanum_Is.f a0 a1 = some r) :
    Calls Try.prog 21 #[errW a0, .int .i64 a1] w fun e w' => e = .returned (.bool r) ∧ Drawn0 w w' := by
  have H : ((laminanum_Num.f a0).bind fun t125 => (some (t125 == a1))) = some r := h
  clear h
  replace H := Option.bind_eq_some_iff.mp H
  obtain ⟨t125, A30, H⟩ := H
  replace H : (some (t125 == a1)) = some r := H
  have A3 := Aside0.mk A30
  clear A30
  obtain rfl := Option.some.inj H
  have CA3 := fun W => laminanum_Num.calls a0 t125 W A3.out
  try simp only [errW_none, errW_some] at CA3
  go_enter Try.func21, Try.ntmps21
  go_wp2_with (first | (go_at_call 44; (with_reducible refine (CA3 _).mono ?_); rintro e w' ⟨rfl, ⟨nd, rfl⟩⟩))
  go_ret
  exact ⟨by first | rfl | (simp; done) | (simp [*]; done), by repeat (first | exact Drawn0.refl _ | apply Drawn0.step)⟩

/-! ### laminalaw03_large: function 9 -/
def laminalaw03_large.l0 : Nat → List (S31) → Int → Int → Option (Bool)
  | 0, _, _, _ => none
  | k + 1, x5, x6, x7 => if x7 < x6 then (if 0 ≤ x7 then (if x7 < (x5.length : Int) then (if x7 > 40 then (some true) else (if (((rd_T31 x5 x7).f2).length : Int) > 300 then (some true) else (if (((rd_T31 x5 x7).f3).length : Int) > 50 then (some true) else (laminalaw03_large.l0 k x5 x6 (wrap64 (x7 + 1)))))) else (none)) else (none)) else (some false)
def laminalaw03_large.f (k : Nat) (l0 : List (S31)) : Option (Bool) := laminalaw03_large.l0 k l0 (l0.length : Int) 0
theorem laminalaw03_large.mono_l : ∀ k, (∀ y0 y1 y2, LeO (laminalaw03_large.l0 k y0 y1 y2) (laminalaw03_large.l0 (k + 1) y0 y1 y2))
  | 0 => fun _ _ _ r h => by simp [laminalaw03_large.l0] at h
  | k + 1 => by
    have ih0 := laminalaw03_large.mono_l k
    · intro y0 y1 y2
      unfold laminalaw03_large.l0
      repeat' first
      | (with_reducible exact ih0 _ _ _)
      | (with_reducible exact LeO.refl _)
      | (with_reducible exact LeO.none _)
      | (with_reducible refine LeO.ite ?_ ?_)
      | (with_reducible refine LeO.bind ?_ (fun _ => ?_))
      | exact ih0 _ _ _
      | exact LeO.none _
      | refine LeO.ite ?_ ?_
      | refine LeO.bind ?_ (fun _ => ?_)
theorem laminalaw03_large.mono : ∀ a0 k, LeO (laminalaw03_large.f k a0) (laminalaw03_large.f (k + 1) a0) := by
  intro a0 k
  have ih0 := laminalaw03_large.mono_l k
  unfold laminalaw03_large.f
  repeat' first
      | (with_reducible exact ih0 _ _ _)
      | (with_reducible exact LeO.refl _)
      | (with_reducible exact LeO.none _)
      | (with_reducible refine LeO.ite ?_ ?_)
      | (with_reducible refine LeO.bind ?_ (fun _ => ?_))
      | exact ih0 _ _ _
      | exact LeO.none _
      | refine LeO.ite ?_ ?_
      | refine LeO.bind ?_ (fun _ => ?_)
set_option maxHeartbeats 8000000 in
set_option maxRecDepth 100000 in
theorem laminalaw03_large.calls (k : Nat) (A0 : Option Addr) (c0 : Nat) (l0 : List (S31)) (r : Bool) (w : World) (hr0 : Kd.C k31 w A0 l0.length l0) (hc0 : l0.length ≤ c0) (h : laminalaw03_large.f k l0 = some r) :
    Calls Try.prog 9 #[.slice A0 l0.length c0] w fun e w' => e = .returned (.bool r) ∧ Below w.heap.size w w' := by
  have hu31 := Try.underlying31
  have HR0 := Aside0.mk hr0
  have HC0 := Aside0.mk hc0
  clear hr0 hc0
  have HB := Aside0.mk (Below.refl w.heap.size w)
  have H : (laminalaw03_large.l0 k l0 (l0.length : Int) 0) = some r := h
  clear h
  have H' := Aside0.mk H
  clear H
  go_enter Try.func9, Try.ntmps9
  go_wp2
  go_loopg [7] k (fun kq v7 w' => ∃ (x7_1 : Int), v7 = .int .i64 x7_1 ∧ Aside0 (laminalaw03_large.l0 kq l0 (l0.length : Int) x7_1 = some r) ∧ Aside0 (kq ≤ k) ∧ Aside0 (Below w.heap.size w w'))
  case atStart => exact ⟨(0), (by first | rfl | (simp; done) | (simp [*]; done)), H', ⟨Nat.le_refl _⟩, ⟨by repeat (first | (with_reducible first | exact HB.out | apply below_alloc | apply pw_below_drewN | apply below_drew1) | exact HB.out)⟩⟩
  case round =>
    clear H'
    obtain ⟨x7_1, rfl, HA, HK1, HB⟩ := hrel
    cases gk with
    | zero => exact absurd HA.out (by simp [laminalaw03_large.l0])
    | succ k1 =>
      have H := HA.out
      clear HA
      simp only [laminalaw03_large.l0] at H
      by_cases c2 : x7_1 < (l0.length : Int)
      · rw [if_pos c2] at H
        have c2b0 : decide (x7_1 < (l0.length : Int)) = true := decide_eq_true c2
        clear c2
        by_cases c3 : 0 ≤ x7_1
        · rw [if_pos c3] at H
          have c3b0 : decide (0 ≤ x7_1) = true := decide_eq_true c3
          clear c3
          by_cases c4 : x7_1 < (l0.length : Int)
          · rw [if_pos c4] at H
            have c4b0 : decide (x7_1 < (l0.length : Int)) = true := decide_eq_true c4
            clear c4
            by_cases c5 : x7_1 > 40
            · rw [if_pos c5] at H
              have c5b0 : decide (40 < x7_1) = true := decide_eq_true c5
              clear c5
              obtain rfl := Option.some.inj H
              have p101 : 0 ≤ (x7_1 : Int) := of_decide_eq_true (by first | (with_reducible assumption) | assumption)
              have q101 : x7_1 < (l0.length : Int) := of_decide_eq_true (by first | (with_reducible assumption) | assumption)
              obtain ⟨ad101, A101_2, c101_2, A101_3, c101_3, e101, hx101_0, hx101_1, hx101_2, hx101_3, hl101_2, hi101_2, hl101_3, hi101_3⟩ := at_T31 HR0.out x7_1 p101 q101
              cases e101
              replace hx101_0 := (HB.out.cell (World.block_lt_of_cell? w _ hx101_0)).trans hx101_0
              replace hx101_1 := (HB.out.cell (World.block_lt_of_cell? w _ hx101_1)).trans hx101_1
              replace hx101_2 := (HB.out.cell (World.block_lt_of_cell? w _ hx101_2)).trans hx101_2
              replace hx101_3 := (HB.out.cell (World.block_lt_of_cell? w _ hx101_3)).trans hx101_3
              have HR101_2 := Aside0.mk hi101_2
              have HC101_2 := Aside0.mk hl101_2
              clear hi101_2 hl101_2
              have HR101_3 := Aside0.mk hi101_3
              have HC101_3 := Aside0.mk hl101_3
              clear hi101_3 hl101_3
              replace p101 := eq_true p101
              replace q101 := eq_true q101
              go_wp2_with (first | ((with_reducible refine gate_dst (N := 4) rfl ?_); (try (refine gate_guard (by rfl) ?_; dsimp only)); refine box_event ?hg (N := 4) ?hd (cs := #[.int .i64 0, .int .i64 0, .slice none 0 0, .slice none 0 0]) (t := 31) ?hr ?_; (case hd => rfl); (case hg => rfl); (case hr => first | (go_simp; done) | (go_simp; rfl)); intro gb102 hg w6 hbox hb; have n0_ := Aside0.mk (below_step (by repeat (first | (with_reducible first | exact HB.out | apply below_alloc | apply pw_below_drewN | apply below_drew1) | exact HB.out)) hb); have n1_ := Aside0.mk (hbox); have n2_ := Aside0.mk ((by rw [hg]; exact (below_size (by repeat (first | (with_reducible first | exact HB.out | apply below_alloc | apply pw_below_drewN | apply below_drew1) | exact HB.out))) : w.heap.size ≤ gb102)); have n3_ := Aside0.mk ((by rw [hg]; exact (below_size (by repeat (first | (with_reducible first | exact HB.out | apply below_alloc | apply pw_below_drewN | apply below_drew1) | exact HB.out))) : w.heap.size ≤ gb102)); clear HB; have HB := n0_; have BK102 := n1_; have GW102 := n2_; have GE102 := n3_; clear n0_ n1_ n2_ n3_; clear hb hbox hg; have hcz7_0 : w6.cell? ⟨gb102, 0, none⟩ = some (.int .i64 0) := (blk_cell BK102.out 0).trans rfl; have hcz7_1 : w6.cell? ⟨gb102, 1, none⟩ = some (.int .i64 0) := (blk_cell BK102.out 1).trans rfl; have hcz7_2 : w6.cell? ⟨gb102, 2, none⟩ = some (.slice none 0 0) := (blk_cell BK102.out 2).trans rfl; have hcz7_3 : w6.cell? ⟨gb102, 3, none⟩ = some (.slice none 0 0) := (blk_cell BK102.out 3).trans rfl; have hfz7_0 := blk_frozen BK102.out 0; have hfz7_1 := blk_frozen BK102.out 1; have hfz7_2 := blk_frozen BK102.out 2; have hfz7_3 := blk_frozen BK102.out 3))
              go_ret
              exact ⟨by first | rfl | (simp [errW_none, errW_some] <;> rfl) | (simp [*, errW_none, errW_some] <;> rfl), by repeat (first | (with_reducible first | exact HB.out | apply below_alloc | apply pw_below_drewN | apply below_drew1 | refine below_set ?_ GE102.out) | exact HB.out)⟩
            · rw [if_neg c5] at H
              have c5b0 : decide (40 < x7_1) = false := decide_eq_false c5
              clear c5
              by_cases c8 : (((rd_T31 l0 x7_1).f2).length : Int) > 300
              · rw [if_pos c8] at H
                have c8b0 : decide (300 < (((rd_T31 l0 x7_1).f2).length : Int)) = true := decide_eq_true c8
                have c8b1 : decide (300 < ((rd_T31 l0 x7_1).f2).length) = true := decide_eq_true (by omega)
                clear c8
                obtain rfl := Option.some.inj H
                have p101 : 0 ≤ (x7_1 : Int) := of_decide_eq_true (by first | (with_reducible assumption) | assumption)
                have q101 : x7_1 < (l0.length : Int) := of_decide_eq_true (by first | (with_reducible assumption) | assumption)
                obtain ⟨ad101, A101_2, c101_2, A101_3, c101_3, e101, hx101_0, hx101_1, hx101_2, hx101_3, hl101_2, hi101_2, hl101_3, hi101_3⟩ := at_T31 HR0.out x7_1 p101 q101
                cases e101
                replace hx101_0 := (HB.out.cell (World.block_lt_of_cell? w _ hx101_0)).trans hx101_0
                replace hx101_1 := (HB.out.cell (World.block_lt_of_cell? w _ hx101_1)).trans hx101_1
                replace hx101_2 := (HB.out.cell (World.block_lt_of_cell? w _ hx101_2)).trans hx101_2
                replace hx101_3 := (HB.out.cell (World.block_lt_of_cell? w _ hx101_3)).trans hx101_3
                have HR101_2 := Aside0.mk hi101_2
                have HC101_2 := Aside0.mk hl101_2
                clear hi101_2 hl101_2
                have HR101_3 := Aside0.mk hi101_3
                have HC101_3 := Aside0.mk hl101_3
                clear hi101_3 hl101_3
                replace p101 := eq_true p101
                replace q101 := eq_true q101
                go_wp2_with (first | ((with_reducible refine gate_dst (N := 4) rfl ?_); (try (refine gate_guard (by rfl) ?_; dsimp only)); refine box_event ?hg (N := 4) ?hd (cs := #[.int .i64 0, .int .i64 0, .slice none 0 0, .slice none 0 0]) (t := 31) ?hr ?_; (case hd => rfl); (case hg => rfl); (case hr => first | (go_simp; done) | (go_simp; rfl)); intro gb102 hg w9 hbox hb; have n0_ := Aside0.mk (below_step (by repeat (first | (with_reducible first | exact HB.out | apply below_alloc | apply pw_below_drewN | apply below_drew1) | exact HB.out)) hb); have n1_ := Aside0.mk (hbox); have n2_ := Aside0.mk ((by rw [hg]; exact (below_size (by repeat (first | (with_reducible first | exact HB.out | apply below_alloc | apply pw_below_drewN | apply below_drew1) | exact HB.out))) : w.heap.size ≤ gb102)); have n3_ := Aside0.mk ((by rw [hg]; exact (below_size (by repeat (first | (with_reducible first | exact HB.out | apply below_alloc | apply pw_below_drewN | apply below_drew1) | exact HB.out))) : w.heap.size ≤ gb102)); clear HB; have HB := n0_; have BK102 := n1_; have GW102 := n2_; have GE102 := n3_; clear n0_ n1_ n2_ n3_; clear hb hbox hg; have hcz10_0 : w9.cell? ⟨gb102, 0, none⟩ = some (.int .i64 0) := (blk_cell BK102.out 0).trans rfl; have hcz10_1 : w9.cell? ⟨gb102, 1, none⟩ = some (.int .i64 0) := (blk_cell BK102.out 1).trans rfl; have hcz10_2 : w9.cell? ⟨gb102, 2, none⟩ = some (.slice none 0 0) := (blk_cell BK102.out 2).trans rfl; have hcz10_3 : w9.cell? ⟨gb102, 3, none⟩ = some (.slice none 0 0) := (blk_cell BK102.out 3).trans rfl; have hfz10_0 := blk_frozen BK102.out 0; have hfz10_1 := blk_frozen BK102.out 1; have hfz10_2 := blk_frozen BK102.out 2; have hfz10_3 := blk_frozen BK102.out 3))
                go_ret
                exact ⟨by first | rfl | (simp [errW_none, errW_some] <;> rfl) | (simp [*, errW_none, errW_some] <;> rfl), by repeat (first | (with_reducible first | exact HB.out | apply below_alloc | apply pw_below_drewN | apply below_drew1 | refine below_set ?_ GE102.out) | exact HB.out)⟩
              · rw [if_neg c8] at H
                have c8b0 : decide (300 < (((rd_T31 l0 x7_1).f2).length : Int)) = false := decide_eq_false c8
                have c8b1 : decide (300 < ((rd_T31 l0 x7_1).f2).length) = false := decide_eq_false (by omega)
                clear c8
                by_cases c11 : (((rd_T31 l0 x7_1).f3).length : Int) > 50
                · rw [if_pos c11] at H
                  have c11b0 : decide (50 < (((rd_T31 l0 x7_1).f3).length : Int)) = true := decide_eq_true c11
                  have c11b1 : decide (50 < ((rd_T31 l0 x7_1).f3).length) = true := decide_eq_true (by omega)
                  clear c11
                  obtain rfl := Option.some.inj H
                  have p101 : 0 ≤ (x7_1 : Int) := of_decide_eq_true (by first | (with_reducible assumption) | assumption)
                  have q101 : x7_1 < (l0.length : Int) := of_decide_eq_true (by first | (with_reducible assumption) | assumption)
                  obtain ⟨ad101, A101_2, c101_2, A101_3, c101_3, e101, hx101_0, hx101_1, hx101_2, hx101_3, hl101_2, hi101_2, hl101_3, hi101_3⟩ := at_T31 HR0.out x7_1 p101 q101
                  cases e101
                  replace hx101_0 := (HB.out.cell (World.block_lt_of_cell? w _ hx101_0)).trans hx101_0
                  replace hx101_1 := (HB.out.cell (World.block_lt_of_cell? w _ hx101_1)).trans hx101_1
                  replace hx101_2 := (HB.out.cell (World.block_lt_of_cell? w _ hx101_2)).trans hx101_2
                  replace hx101_3 := (HB.out.cell (World.block_lt_of_cell? w _ hx101_3)).trans hx101_3
                  have HR101_2 := Aside0.mk hi101_2
                  have HC101_2 := Aside0.mk hl101_2
                  clear hi101_2 hl101_2
                  have HR101_3 := Aside0.mk hi101_3
                  have HC101_3 := Aside0.mk hl101_3
                  clear hi101_3 hl101_3
                  replace p101 := eq_true p101
                  replace q101 := eq_true q101
                  go_wp2_with (first | ((with_reducible refine gate_dst (N := 4) rfl ?_); (try (refine gate_guard (by rfl) ?_; dsimp only)); refine box_event ?hg (N := 4) ?hd (cs := #[.int .i64 0, .int .i64 0, .slice none 0 0, .slice none 0 0]) (t := 31) ?hr ?_; (case hd => rfl); (case hg => rfl); (case hr => first | (go_simp; done) | (go_simp; rfl)); intro gb102 hg w12 hbox hb; have n0_ := Aside0.mk (below_step (by repeat (first | (with_reducible first | exact HB.out | apply below_alloc | apply pw_below_drewN | apply below_drew1) | exact HB.out)) hb); have n1_ := Aside0.mk (hbox); have n2_ := Aside0.mk ((by rw [hg]; exact (below_size (by repeat (first | (with_reducible first | exact HB.out | apply below_alloc | apply pw_below_drewN | apply below_drew1) | exact HB.out))) : w.heap.size ≤ gb102)); have n3_ := Aside0.mk ((by rw [hg]; exact (below_size (by repeat (first | (with_reducible first | exact HB.out | apply below_alloc | apply pw_below_drewN | apply below_drew1) | exact HB.out))) : w.heap.size ≤ gb102)); clear HB; have HB := n0_; have BK102 := n1_; have GW102 := n2_; have GE102 := n3_; clear n0_ n1_ n2_ n3_; clear hb hbox hg; have hcz13_0 : w12.cell? ⟨gb102, 0, none⟩ = some (.int .i64 0) := (blk_cell BK102.out 0).trans rfl; have hcz13_1 : w12.cell? ⟨gb102, 1, none⟩ = some (.int .i64 0) := (blk_cell BK102.out 1).trans rfl; have hcz13_2 : w12.cell? ⟨gb102, 2, none⟩ = some (.slice none 0 0) := (blk_cell BK102.out 2).trans rfl; have hcz13_3 : w12.cell? ⟨gb102, 3, none⟩ = some (.slice none 0 0) := (blk_cell BK102.out 3).trans rfl; have hfz13_0 := blk_frozen BK102.out 0; have hfz13_1 := blk_frozen BK102.out 1; have hfz13_2 := blk_frozen BK102.out 2; have hfz13_3 := blk_frozen BK102.out 3))
                  go_ret
                  exact ⟨by first | rfl | (simp [errW_none, errW_some] <;> rfl) | (simp [*, errW_none, errW_some] <;> rfl), by repeat (first | (with_reducible first | exact HB.out | apply below_alloc | apply pw_below_drewN | apply below_drew1 | refine below_set ?_ GE102.out) | exact HB.out)⟩
                · rw [if_neg c11] at H
                  have c11b0 : decide (50 < (((rd_T31 l0 x7_1).f3).length : Int)) = false := decide_eq_false c11
                  have c11b1 : decide (50 < ((rd_T31 l0 x7_1).f3).length) = false := decide_eq_false (by omega)
                  clear c11
                  have H' := Aside0.mk H
                  clear H
                  have p101 : 0 ≤ (x7_1 : Int) := of_decide_eq_true (by first | (with_reducible assumption) | assumption)
                  have q101 : x7_1 < (l0.length : Int) := of_decide_eq_true (by first | (with_reducible assumption) | assumption)
                  obtain ⟨ad101, A101_2, c101_2, A101_3, c101_3, e101, hx101_0, hx101_1, hx101_2, hx101_3, hl101_2, hi101_2, hl101_3, hi101_3⟩ := at_T31 HR0.out x7_1 p101 q101
                  cases e101
                  replace hx101_0 := (HB.out.cell (World.block_lt_of_cell? w _ hx101_0)).trans hx101_0
                  replace hx101_1 := (HB.out.cell (World.block_lt_of_cell? w _ hx101_1)).trans hx101_1
                  replace hx101_2 := (HB.out.cell (World.block_lt_of_cell? w _ hx101_2)).trans hx101_2
                  replace hx101_3 := (HB.out.cell (World.block_lt_of_cell? w _ hx101_3)).trans hx101_3
                  have HR101_2 := Aside0.mk hi101_2
                  have HC101_2 := Aside0.mk hl101_2
                  clear hi101_2 hl101_2
                  have HR101_3 := Aside0.mk hi101_3
                  have HC101_3 := Aside0.mk hl101_3
                  clear hi101_3 hl101_3
                  replace p101 := eq_true p101
                  replace q101 := eq_true q101
                  go_wp2_with (first | ((with_reducible refine gate_dst (N := 4) rfl ?_); (try (refine gate_guard (by rfl) ?_; dsimp only)); refine box_event ?hg (N := 4) ?hd (cs := #[.int .i64 0, .int .i64 0, .slice none 0 0, .slice none 0 0]) (t := 31) ?hr ?_; (case hd => rfl); (case hg => rfl); (case hr => first | (go_simp; done) | (go_simp; rfl)); intro gb102 hg w14 hbox hb; have n0_ := Aside0.mk (below_step (by repeat (first | (with_reducible first | exact HB.out | apply below_alloc | apply pw_below_drewN | apply below_drew1) | exact HB.out)) hb); have n1_ := Aside0.mk (hbox); have n2_ := Aside0.mk ((by rw [hg]; exact (below_size (by repeat (first | (with_reducible first | exact HB.out | apply below_alloc | apply pw_below_drewN | apply below_drew1) | exact HB.out))) : w.heap.size ≤ gb102)); have n3_ := Aside0.mk ((by rw [hg]; exact (below_size (by repeat (first | (with_reducible first | exact HB.out | apply below_alloc | apply pw_below_drewN | apply below_drew1) | exact HB.out))) : w.heap.size ≤ gb102)); clear HB; have HB := n0_; have BK102 := n1_; have GW102 := n2_; have GE102 := n3_; clear n0_ n1_ n2_ n3_; clear hb hbox hg; have hcz15_0 : w14.cell? ⟨gb102, 0, none⟩ = some (.int .i64 0) := (blk_cell BK102.out 0).trans rfl; have hcz15_1 : w14.cell? ⟨gb102, 1, none⟩ = some (.int .i64 0) := (blk_cell BK102.out 1).trans rfl; have hcz15_2 : w14.cell? ⟨gb102, 2, none⟩ = some (.slice none 0 0) := (blk_cell BK102.out 2).trans rfl; have hcz15_3 : w14.cell? ⟨gb102, 3, none⟩ = some (.slice none 0 0) := (blk_cell BK102.out 3).trans rfl; have hfz15_0 := blk_frozen BK102.out 0; have hfz15_1 := blk_frozen BK102.out 1; have hfz15_2 := blk_frozen BK102.out 2; have hfz15_3 := blk_frozen BK102.out 3))
                  go_roundg k1
                  case measure => have := HK1.out; omega
                  case rel => exact ⟨(wrap64 (x7_1 + 1)), (by first | rfl | (simp; done) | (simp [*]; done)), H', ⟨by have := HK1.out; omega⟩, ⟨by repeat (first | (with_reducible first | exact HB.out | apply below_alloc | apply pw_below_drewN | apply below_drew1 | refine below_set ?_ GE102.out) | exact HB.out)⟩⟩
          · rw [if_neg c4] at H
            exact absurd H (by simp)
        · rw [if_neg c3] at H
          exact absurd H (by simp)
      · rw [if_neg c2] at H
        have c2b0 : decide (x7_1 < (l0.length : Int)) = false := decide_eq_false c2
        clear c2
        obtain rfl := Option.some.inj H
        go_wp2
        go_ret
        exact ⟨by first | rfl | (simp [errW_none, errW_some] <;> rfl) | (simp [*, errW_none, errW_some] <;> rfl), by repeat (first | (with_reducible first | exact HB.out | apply below_alloc | apply pw_below_drewN | apply below_drew1) | exact HB.out)⟩

-- AUX largew
theorem large_go (l : List S31) (hl : l.length ≤ 140737488351232) : ∀ (d i k : Nat), i + d = l.length → d < k → ∃ r, laminalaw03_large.l0 k l l.length i = some r ∧ (r = false → ∀ j : Nat, i ≤ j → j < l.length → j ≤ 40 ∧ (rd_T31 l j).f2.length ≤ 300 ∧ (rd_T31 l j).f3.length ≤ 50) := by
  intro d
  induction d with
  | zero =>
    intro i k hi hk
    obtain ⟨k, rfl⟩ : ∃ k', k = k' + 1 := ⟨k - 1, by omega⟩
    exact ⟨false, by rw [laminalaw03_large.l0, if_neg (by omega)], fun _ j h1 h2 => by omega⟩
  | succ d ih =>
    intro i k hi hk
    obtain ⟨k, rfl⟩ : ∃ k', k = k' + 1 := ⟨k - 1, by omega⟩
    obtain ⟨r, hr, hp⟩ := ih (i + 1) k (by omega) (by omega)
    have e : wrap64 ((i : Int) + 1) = ((i + 1 : Nat) : Int) := by unfold wrap64; omega
    rw [laminalaw03_large.l0, if_pos (by omega), if_pos (by omega), if_pos (by omega), e]
    by_cases h1 : (i : Int) > 40
    · exact ⟨true, by rw [if_pos h1], fun h => by cases h⟩
    rw [if_neg h1]
    by_cases h2 : (((rd_T31 l i).f2).length : Int) > 300
    · exact ⟨true, by rw [if_pos h2], fun h => by cases h⟩
    rw [if_neg h2]
    by_cases h3 : (((rd_T31 l i).f3).length : Int) > 50
    · exact ⟨true, by rw [if_pos h3], fun h => by cases h⟩
    rw [if_neg h3]
    refine ⟨r, hr, fun h j h4 h5 => ?_⟩
    rcases Nat.eq_or_lt_of_le h4 with h6 | h6
    · subst h6; omega
    · exact hp h j h6 h5
theorem large_f (l : List S31) (hl : l.length ≤ 140737488351232) : ∃ r, laminalaw03_large.f (l.length + 1) l = some r ∧ (r = false → l.length ≤ 41 ∧ ∀ j : Nat, j < l.length → (rd_T31 l j).f2.length ≤ 300 ∧ (rd_T31 l j).f3.length ≤ 50) := by
  obtain ⟨r, hr, hp⟩ := large_go l hl l.length 0 (l.length + 1) (by omega) (by omega)
  refine ⟨r, by unfold laminalaw03_large.f; simpa using hr, fun h => ⟨?_, fun j hj => (hp h j (by omega) hj).2⟩⟩
  rcases Nat.lt_or_ge 41 l.length with h7 | h7
  · have := (hp h 41 (by omega) h7).1
    omega
  · exact h7

/-! ### wire_Writer_Byte: function 28 -/
theorem wire_Writer_Byte.calls (S : Nat → Prop) (z : Bool) (h : Value) (l : List Int) (b : Int) (w : World) (hw : Wr w S z h l) (hl : l.length + 1 ≤ 140737488355328) :
    Calls Try.prog 28 #[h, .int .u8 b] w fun e w' => e = .returned (.tuple #[]) ∧ WrTo w w' S z h (app z l ([b])) := by
  have HW := Aside0.mk hw
  clear hw
  go_enter Try.func28, Try.ntmps28
  go_wp2_with fail
  have hc := C_lit w [b] (by simp) (0, 0)
  refine (wire_Writer_add.calls S z h l (some ⟨w.heap.size, 0, none⟩) 1 [b] _ (HW.out.below (below_alloc (Below.refl _ _) _)) hc (by simpa using hl)).mono ?_
  rintro e w1 ⟨rfl, hx⟩
  go_wp2
  go_end0
  exact ⟨rfl, hx.late (below_alloc (Below.refl _ _) _)⟩

/-! ### wire_sized_byte: function 48 -/
theorem wire_sized_byte.calls (S : Nat → Prop) (z : Bool) (h : Value) (l : List Int) (T : Nat → Prop) (A : Option Addr) (c : Nat) (bs : List Int) (w : World) (hw : Wr w S z h l) (hr : Rb w T A bs) (hd : ∀ i, T i → ¬ S i) (hl : l.length + 8 + bs.length ≤ 140737488355328) :
    Calls Try.prog 48 #[h, .slice A bs.length c] w fun e w' => e = .returned (.tuple #[]) ∧ WrTo w w' S z h (app z l (numL bs.length ++ bs)) := by
  have HW := Aside0.mk hw
  have HR := Aside0.mk hr
  have hm := hr.row.2.1
  have hal := app_len z l (numL bs.length)
  rw [numL_len] at hal
  have HAL := Aside0.mk hal
  clear hw hr hal
  go_enter Try.func48, Try.ntmps48
  go_wp2_with fail
  refine (wire_Writer_Num.calls S z h l bs.length _ HW.out (by omega) (by omega) (by omega)).mono ?_
  rintro e w1 ⟨rfl, hx⟩
  have HX := Aside0.mk hx
  clear hx
  go_wp2_with fail
  refine (wire_Writer_add.calls _ z h _ A c bs _ HX.out.wr (HR.out.only HX.out.only hd).row (by have := HAL.out; omega)).mono ?_
  rintro e w2 ⟨rfl, hy⟩
  go_wp2
  go_end0
  rw [app_app] at hy
  exact ⟨rfl, HX.out.then_ hy⟩

/-! ### wire_Writer_Bytes: function 29 -/
theorem wire_Writer_Bytes.calls (S : Nat → Prop) (z : Bool) (h : Value) (l : List Int) (T : Nat → Prop) (A : Option Addr) (c : Nat) (bs : List Int) (w : World) (hw : Wr w S z h l) (hr : Rb w T A bs) (hd : ∀ i, T i → ¬ S i) (hl : l.length + 8 + bs.length ≤ 140737488355328) :
    Calls Try.prog 29 #[h, .slice A bs.length c] w fun e w' => e = .returned (.tuple #[]) ∧ WrTo w w' S z h (app z l (numL bs.length ++ bs)) := by
  have HW := Aside0.mk hw
  have HR := Aside0.mk hr
  clear hw hr
  go_enter Try.func29, Try.ntmps29
  go_wp2_with fail
  refine (wire_sized_byte.calls S z h l T A c bs _ HW.out HR.out hd hl).mono ?_
  rintro e w1 ⟨rfl, hx⟩
  go_wp2
  go_end0
  exact ⟨rfl, hx⟩

/-! ### laminaref03_Num: function 34 -/
def laminaref03_Num.l0 : Nat → Int → List Int → Int → Option (List Int)
  | 0, _, _, _ => none
  | k + 1, x3, x4, x5 => if x5 < 8 then (if x4.length < 140737488355328 then (laminaref03_Num.l0 k (IntKind.u64.wrap (Int.tdiv x3 256)) (x4 ++ [(Int.tmod x3 256) % 256]) (wrap64 (x5 + 1))) else (none)) else (some x4)
def laminaref03_Num.f (k : Nat) (a0 : Int) : Option (List Int) := laminaref03_Num.l0 k (IntKind.u64.wrap (a0)) ([] : List Int) 0
theorem laminaref03_Num.mono_l : ∀ k, (∀ y0 y1 y2, LeO (laminaref03_Num.l0 k y0 y1 y2) (laminaref03_Num.l0 (k + 1) y0 y1 y2))
  | 0 => fun _ _ _ r h => by simp [laminaref03_Num.l0] at h
  | k + 1 => by
    have ih0 := laminaref03_Num.mono_l k
    · intro y0 y1 y2
      unfold laminaref03_Num.l0
      repeat' first
      | (with_reducible exact ih0 _ _ _)
      | (with_reducible exact LeO.refl _)
      | (with_reducible exact LeO.none _)
      | (with_reducible refine LeO.ite ?_ ?_)
      | (with_reducible refine LeO.bind ?_ (fun _ => ?_))
      | exact ih0 _ _ _
      | exact LeO.none _
      | refine LeO.ite ?_ ?_
      | refine LeO.bind ?_ (fun _ => ?_)
theorem laminaref03_Num.mono : ∀ a0 k, LeO (laminaref03_Num.f k a0) (laminaref03_Num.f (k + 1) a0) := by
  intro a0 k
  have ih0 := laminaref03_Num.mono_l k
  unfold laminaref03_Num.f
  repeat' first
      | (with_reducible exact ih0 _ _ _)
      | (with_reducible exact LeO.refl _)
      | (with_reducible exact LeO.none _)
      | (with_reducible refine LeO.ite ?_ ?_)
      | (with_reducible refine LeO.bind ?_ (fun _ => ?_))
      | exact ih0 _ _ _
      | exact LeO.none _
      | refine LeO.ite ?_ ?_
      | refine LeO.bind ?_ (fun _ => ?_)
set_option maxHeartbeats 8000000 in
set_option maxRecDepth 100000 in
theorem laminaref03_Num.calls (k : Nat) (a0 : Int) (r : List Int) (w : World) (h : laminaref03_Num.f k a0 = some r) :
    Calls Try.prog 34 #[.int .i64 a0] w fun e w' => ∃ v0_ : Value, e = .returned (v0_) ∧ Kd.R (Kd.int .u8) 5 w' w.heap.size (fun _ => True) v0_ r ∧ Below w.heap.size w w' := by
  have HB := Aside0.mk (Below.refl w.heap.size w)
  have H : (laminaref03_Num.l0 k (IntKind.u64.wrap (a0)) ([] : List Int) 0) = some r := h
  clear h
  have H' := Aside0.mk H
  clear H
  go_enter Try.func34, Try.ntmps34
  go_wp2
  go_loopg [3, 4, 5] k (fun kq v3 v4 v5 w' => ∃ (x3_1 : Int) (x4_1 : List Int) (x5_1 : Int), v3 = .int .u64 x3_1 ∧ v5 = .int .i64 x5_1 ∧ Aside0 (laminaref03_Num.l0 kq x3_1 x4_1 x5_1 = some r) ∧ Aside0 (kq ≤ k) ∧ Aside0 (Kd.R (Kd.int .u8) 5 w' w.heap.size (fun _ => True) v4 x4_1) ∧ Aside0 (Below w.heap.size w w'))
  case atStart => exact ⟨(IntKind.u64.wrap (a0)), (([] : List Int)), (0), (by first | rfl | (simp; done) | (simp [*]; done)), (by first | rfl | (simp; done) | (simp [*]; done)), H', ⟨Nat.le_refl _⟩, ⟨by first | exact Kd.R_nil _ _ _ _ _ | exact Kd.N_nil _ _ _ _ _ | exact Kd.V_nil _ _ _ _ _ | exact Kd.Q_nil _ _ _ _ _ | exact Kd.S_nil _ _ _ _ _⟩, ⟨by repeat (first | (with_reducible first | exact HB.out | apply below_alloc | apply pw_below_drewN | apply below_drew1) | exact HB.out)⟩⟩
  case round =>
    clear H'
    obtain ⟨x3_1, x4_1, x5_1, rfl, rfl, HA, HK1, HO_4, HB⟩ := hrel
    cases gk with
    | zero => exact absurd HA.out (by simp [laminaref03_Num.l0])
    | succ k1 =>
      have H := HA.out
      clear HA
      simp only [laminaref03_Num.l0] at H
      by_cases c2 : x5_1 < 8
      · rw [if_pos c2] at H
        have c2b0 : decide (x5_1 < 8) = true := decide_eq_true c2
        clear c2
        by_cases c3 : x4_1.length < 140737488355328
        · rw [if_pos c3] at H
          have LMc3 := Aside0.mk c3
          clear c3
          obtain ⟨y103, hy103⟩ : ∃ y_ : List Int, y_ = (x4_1 ++ [(Int.tmod x3_1 256) % 256]) := ⟨_, rfl⟩
          replace H : (laminaref03_Num.l0 k1 (IntKind.u64.wrap (Int.tdiv x3_1 256)) y103 (wrap64 (x5_1 + 1))) = some r := by first | (rw [hy103]; with_reducible exact H) | (have H2_ := (Option.bind_some _ _).symm.trans H; rw [hy103]; with_reducible exact H2_) | (have H2_ := (Option.bind_some _ _).symm.trans H; with_reducible exact H2_) | with_reducible exact H | (rw [hy103]; exact H) | exact H
          have Ny103 := Aside0.mk hy103
          clear hy103
          have H' := Aside0.mk H
          clear H
          go_wp2_with (first | ((with_reducible refine gate_builtin (b := .append) (xs := #[.tmp 12, .tmp 16]) rfl ?_); at_builtin; refine Kd.R_append (Kd.int .u8) (w0 := w) w.heap.size rfl (.tmp 12) (.tmp 16) 26 5 (.int .u8 0) 1 rfl Try.underlying26 info5 rfl (by decide) (by omega) u4 x4_1 ((Int.tmod x3_1 256) % 256) [.int .u8 ((Int.tmod x3_1 256) % 256)] (fun _ => True) (fun _ => False) rfl rfl ?aP (fun _ hk => hk.elim) ?aF ?aO ?aB ?aS ?aL ?_; (case aP => exact rfl); (case aB => exact (by repeat (first | (with_reducible first | exact HB.out | apply below_alloc | apply pw_below_drewN | apply below_drew1) | exact HB.out))); (case aF => exact (fun _ _ => trivial)); (case aO => exact (by (with_reducible repeat (first | apply Kd.R_alloc | apply Kd.R_drewN | apply Kd.R_drew)); exact HO_4.out)); (case aS => exact (below_size (by repeat (first | (with_reducible first | exact HB.out | apply below_alloc | apply pw_below_drewN | apply below_drew1) | exact HB.out)))); (case aL => have := LMc3.out; omega); intro v104 w4 ho hb hg hat; rw [← Ny103.out] at ho; have n0_ := Aside0.mk (hb); have n1_ := Aside0.mk (ho); clear HB; clear HO_4; have HB := n0_; have HO105 := n1_; clear n0_ n1_; clear ho hb hg hat))
          go_roundg k1
          case measure => have := HK1.out; omega
          case rel => exact ⟨(IntKind.u64.wrap (Int.tdiv x3_1 256)), (y103), (wrap64 (x5_1 + 1)), (by first | rfl | (simp; done) | (simp [*]; done)), (by first | rfl | (simp; done) | (simp [*]; done)), H', ⟨by have := HK1.out; omega⟩, ⟨by (with_reducible repeat (first | apply Kd.R_alloc | apply Kd.R_drewN | apply Kd.R_drew)); exact HO105.out⟩, ⟨by repeat (first | (with_reducible first | exact HB.out | apply below_alloc | apply pw_below_drewN | apply below_drew1) | exact HB.out)⟩⟩
        · rw [if_neg c3] at H
          exact absurd H (by simp)
      · rw [if_neg c2] at H
        have c2b0 : decide (x5_1 < 8) = false := decide_eq_false c2
        clear c2
        obtain rfl := Option.some.inj H
        go_wp2
        go_ret
        exact ⟨_, by first | rfl | (simp [errW_none, errW_some] <;> rfl) | (simp [*, errW_none, errW_some] <;> rfl), by (with_reducible repeat (first | apply Kd.R_alloc | apply Kd.R_drewN | apply Kd.R_drew)); exact HO_4.out, by repeat (first | (with_reducible first | exact HB.out | apply below_alloc | apply pw_below_drewN | apply below_drew1) | exact HB.out)⟩

/-! ### laminaref03_Bytes: function 30 -/
def laminaref03_Bytes.f (k : Nat) (l0 : List Int) : Option (List Int) := (laminaref03_Num.f k (l0.length : Int)).bind fun t106 => (if t106.length + l0.length < 140737488355328 then (some (t106 ++ l0)) else (none))
theorem laminaref03_Bytes.mono : ∀ a0 k, LeO (laminaref03_Bytes.f k a0) (laminaref03_Bytes.f (k + 1) a0) := by
  intro a0 k
  unfold laminaref03_Bytes.f
  repeat' first
      | (with_reducible exact laminaref03_Num.mono _ _)
      | (with_reducible exact LeO.refl _)
      | (with_reducible exact LeO.none _)
      | (with_reducible refine LeO.ite ?_ ?_)
      | (with_reducible refine LeO.bind ?_ (fun _ => ?_))
      | exact laminaref03_Num.mono _ _
      | exact LeO.none _
      | refine LeO.ite ?_ ?_
      | refine LeO.bind ?_ (fun _ => ?_)
set_option maxHeartbeats 8000000 in
set_option maxRecDepth 100000 in
theorem laminaref03_Bytes.calls (k : Nat) (A0 : Option Addr) (c0 : Nat) (l0 : List Int) (r : List Int) (w : World) (hr0 : Kd.C (Kd.int .u8) w A0 l0.length l0) (hc0 : l0.length ≤ c0) (h : laminaref03_Bytes.f k l0 = some r) :
    Calls Try.prog 30 #[.slice A0 l0.length c0] w fun e w' => ∃ v0_ : Value, e = .returned (v0_) ∧ Kd.R (Kd.int .u8) 5 w' w.heap.size (fun _ => True) v0_ r ∧ Below w.heap.size w w' := by
  have HR0 := Aside0.mk hr0
  have HC0 := Aside0.mk hc0
  clear hr0 hc0
  have HB := Aside0.mk (Below.refl w.heap.size w)
  have H : ((laminaref03_Num.f k (l0.length : Int)).bind fun t106 => (if t106.length + l0.length < 140737488355328 then (some (t106 ++ l0)) else (none))) = some r := h
  clear h
  replace H := Option.bind_eq_some_iff.mp H
  obtain ⟨t106, A20, H⟩ := H
  replace H : (if t106.length + l0.length < 140737488355328 then (some (t106 ++ l0)) else (none)) = some r := H
  have A2 := Aside0.mk A20
  clear A20
  by_cases c3 : t106.length + l0.length < 140737488355328
  · rw [if_pos c3] at H
    have LMc3 := Aside0.mk c3
    clear c3
    obtain ⟨y109, hy109⟩ : ∃ y_ : List Int, y_ = (t106 ++ l0) := ⟨_, rfl⟩
    replace H : (some y109) = some r := by first | (rw [hy109]; with_reducible exact H) | (have H2_ := (Option.bind_some _ _).symm.trans H; rw [hy109]; with_reducible exact H2_) | (have H2_ := (Option.bind_some _ _).symm.trans H; with_reducible exact H2_) | with_reducible exact H | (rw [hy109]; exact H) | exact H
    have Ny109 := Aside0.mk hy109
    clear hy109
    obtain rfl := Option.some.inj H
    go_enter Try.func30, Try.ntmps30
    go_wp2_with (first | ((with_reducible refine gate_callee (f := 34) rfl ?_); refine goesL_ (some 5) rfl rfl Try.func34 (by kernel_rfl) rfl #[.int .i64 (l0.length : Int)] rfl (by (try simp only [List.map_toArray, List.map_cons, List.map_nil]); first | done | rfl | (simp only [List.length_drop, List.length_take]; rfl)) ?_; (with_reducible refine (laminaref03_Num.calls k (l0.length : Int) t106 _ A2.out).mono ?_); rintro e w4 ⟨v107, rfl, ho0, hb⟩; refine ⟨_, rfl, ?_⟩; have n0_ := Aside0.mk (Kd.R_lower ho0 (below_size (by repeat (first | (with_reducible first | exact HB.out | apply below_alloc | apply pw_below_drewN | apply below_drew1) | exact HB.out)))); have n1_ := Aside0.mk (below_step (by repeat (first | (with_reducible first | exact HB.out | apply below_alloc | apply pw_below_drewN | apply below_drew1) | exact HB.out)) hb); clear HB; have HO108 := n0_; have HB := n1_; clear n0_ n1_; (try clear hb); (try clear hb2); (try clear hk); (try clear hi); (try clear ho0)) | ((with_reducible refine gate_builtin (b := .append) (xs := #[.tmp 5, .tmp 6]) rfl ?_); at_builtin; refine Kd.R_append_rows (Kd.int .u8) (w0 := w) w.heap.size rfl (.tmp 5) (.tmp 6) 26 5 (.int .u8 0) 1 rfl Try.underlying26 info5 rfl (by decide) (by omega) v107 t106 l0 _ _ _ (fun _ => True) (fun _ => False) rfl rfl ?aO ?aR (fun _ _ h => h) (fun _ h => h.elim) ?aF ?aB ?aS ?aL ?_; (case aR => repeat (first | exact (Kd.C_below HR0.out HB.out) | (with_reducible refine Kd.C_alloc ?_ _) | (with_reducible refine Kd.C_drewN ?_ _) | (with_reducible refine Kd.C_drew ?_))); (case aB => exact (by repeat (first | (with_reducible first | exact HB.out | apply below_alloc | apply pw_below_drewN | apply below_drew1) | exact HB.out))); (case aF => exact (fun _ _ => trivial)); (case aO => exact (by (with_reducible repeat (first | apply Kd.R_alloc | apply Kd.R_drewN | apply Kd.R_drew)); exact HO108.out)); (case aS => exact (below_size (by repeat (first | (with_reducible first | exact HB.out | apply below_alloc | apply pw_below_drewN | apply below_drew1) | exact HB.out)))); (case aL => have := LMc3.out; omega); intro v110 w5 ho hb hg hat; rw [← Ny109.out] at ho; have n0_ := Aside0.mk (hb); have n1_ := Aside0.mk (ho); clear HB; clear HO108; have HB := n0_; have HO111 := n1_; clear n0_ n1_; clear ho hb hg hat))
    go_ret
    exact ⟨_, by first | rfl | (simp [errW_none, errW_some] <;> rfl) | (simp [*, errW_none, errW_some] <;> rfl), by (with_reducible repeat (first | apply Kd.R_alloc | apply Kd.R_drewN | apply Kd.R_drew)); exact HO111.out, by repeat (first | (with_reducible first | exact HB.out | apply below_alloc | apply pw_below_drewN | apply below_drew1) | exact HB.out)⟩
  · rw [if_neg c3] at H
    exact absurd H (by simp)

/-! ### wire_Writer_Text: function 31 -/
theorem wire_Writer_Text.calls (S : Nat → Prop) (z : Bool) (h : Value) (l : List Int) (s : ByteArray) (w : World) (hw : Wr w S z h l) (hl : l.length + 8 + s.size ≤ 140737488355328) :
    Calls Try.prog 31 #[h, .string s] w fun e w' => e = .returned (.tuple #[]) ∧ WrTo w w' S z h (app z l (numL s.size ++ bytesOf s)) := by
  have HW := Aside0.mk hw
  clear hw
  go_enter Try.func31, Try.ntmps31
  go_wp2_with fail
  refine (wire_sized_string.calls S z h l s _ HW.out hl).mono ?_
  rintro e w1 ⟨rfl, hx⟩
  go_wp2
  go_end0
  exact ⟨rfl, hx⟩

/-! ### wire_Writer_Nums: function 32 -/
theorem wire_Writer_Nums.calls (S : Nat → Prop) (z : Bool) (h : Value) (l : List Int) (T : Nat → Prop) (A : Option Addr) (c : Nat) (ns : List Int) (w : World) (hw : Wr w S z h l) (hr : Rk .i64 w T A ns) (hd : ∀ i, T i → ¬ S i) (hb : ∀ x ∈ ns, -9223372036854775808 ≤ x ∧ x ≤ 9223372036854775807) (hl : l.length + 8 + 8 * ns.length ≤ 140737488355328) :
    Calls Try.prog 32 #[h, .slice A ns.length c] w fun e w' => e = .returned (.tuple #[]) ∧ WrTo w w' S z h (app z l (numL ns.length ++ numsL ns)) := by
  have HW := Aside0.mk hw
  have HR := Aside0.mk hr
  have hm := hr.row.2.1
  have HBD := Aside0.mk hb
  clear hw hr hb
  go_enter Try.func32, Try.ntmps32
  go_wp2_with fail
  refine (wire_Writer_Num.calls S z h l ns.length _ HW.out (by omega) (by omega) (by omega)).mono ?_
  rintro e w1 ⟨rfl, hx⟩
  have HX := Aside0.mk hx
  clear hx
  go_wp2
  go_loopw [5, 12] (fun _ v12 wr => ∃ k : Nat, k ≤ ns.length ∧ v12 = .int .i64 k ∧ Aside0 (WrTo w wr S z h (app z l (numL ns.length ++ numsL (ns.take k))))) (fun _ v12 _ => ns.length - (intOf v12).toNat)
  case atStart => exact ⟨0, by omega, rfl, ⟨by have := HX.out; simpa [numsL] using this⟩⟩
  case round =>
    obtain ⟨k, hk, rfl, HK⟩ := hrel
    by_cases hlt : k < ns.length
    · obtain ⟨ad, e, hx⟩ := C_cells (HR.out.only HK.out.only hd).row (by omega)
      subst e
      replace hx := hx k hlt
      have hbd := HBD.out (rd ns k) (by simp [rd, hlt])
      have hal := app_len z l (numL ns.length ++ numsL (ns.take k))
      rw [List.length_append, numL_len, numsL_len, List.length_take] at hal
      have HAL := Aside0.mk hal
      obtain ⟨hb1, hb2⟩ := hbd
      clear hal
      go_wp2_with fail
      refine (wire_Writer_Num.calls _ z h _ (rd ns k) _ HK.out.wr (by have := HAL.out; omega) hb1 hb2).mono ?_
      rintro e w2 ⟨rfl, hy⟩
      have HY := Aside0.mk hy
      clear hy hx
      go_wp2
      refine ⟨⟨k + 1, by omega, by go_num, ⟨?_⟩⟩, by simp [intOf]; omega⟩
      have := HK.out.then_ HY.out
      rw [app_app, List.append_assoc, ← numsL_snoc ns k hlt] at this
      exact this
    · obtain rfl : k = ns.length := by omega
      go_wp2
      go_end0
      have := HK.out
      rw [List.take_length] at this
      exact ⟨rfl, this⟩

/-! ### laminaref03_Nums: function 33 -/
def laminaref03_Nums.l0 : Nat → List Int → List Int → Int → Option (List Int)
  | 0, _, _, _ => none
  | k + 1, x0, x3, x4 => if x4 < (x0.length : Int) then (if 0 ≤ x4 then ((laminaref03_Num.f k (rd x0 x4)).bind fun t116 => (if x3.length + t116.length < 140737488355328 then (laminaref03_Nums.l0 k x0 (x3 ++ t116) (wrap64 (x4 + 1))) else (none))) else (none)) else (some x3)
def laminaref03_Nums.f (k : Nat) (l0 : List Int) : Option (List Int) := (laminaref03_Num.f k (l0.length : Int)).bind fun t112 => (laminaref03_Nums.l0 k l0 t112 0)
theorem laminaref03_Nums.mono_l : ∀ k, (∀ y0 y1 y2, LeO (laminaref03_Nums.l0 k y0 y1 y2) (laminaref03_Nums.l0 (k + 1) y0 y1 y2))
  | 0 => fun _ _ _ r h => by simp [laminaref03_Nums.l0] at h
  | k + 1 => by
    have ih0 := laminaref03_Nums.mono_l k
    · intro y0 y1 y2
      unfold laminaref03_Nums.l0
      repeat' first
      | (with_reducible exact ih0 _ _ _)
      | (with_reducible exact laminaref03_Num.mono _ _)
      | (with_reducible exact LeO.refl _)
      | (with_reducible exact LeO.none _)
      | (with_reducible refine LeO.ite ?_ ?_)
      | (with_reducible refine LeO.bind ?_ (fun _ => ?_))
      | exact ih0 _ _ _
      | exact laminaref03_Num.mono _ _
      | exact LeO.none _
      | refine LeO.ite ?_ ?_
      | refine LeO.bind ?_ (fun _ => ?_)
theorem laminaref03_Nums.mono : ∀ a0 k, LeO (laminaref03_Nums.f k a0) (laminaref03_Nums.f (k + 1) a0) := by
  intro a0 k
  have ih0 := laminaref03_Nums.mono_l k
  unfold laminaref03_Nums.f
  repeat' first
      | (with_reducible exact ih0 _ _ _)
      | (with_reducible exact laminaref03_Num.mono _ _)
      | (with_reducible exact LeO.refl _)
      | (with_reducible exact LeO.none _)
      | (with_reducible refine LeO.ite ?_ ?_)
      | (with_reducible refine LeO.bind ?_ (fun _ => ?_))
      | exact ih0 _ _ _
      | exact laminaref03_Num.mono _ _
      | exact LeO.none _
      | refine LeO.ite ?_ ?_
      | refine LeO.bind ?_ (fun _ => ?_)
set_option maxHeartbeats 8000000 in
set_option maxRecDepth 100000 in
theorem laminaref03_Nums.calls (k : Nat) (A0 : Option Addr) (c0 : Nat) (l0 : List Int) (r : List Int) (w : World) (hr0 : Kd.C (Kd.int .i64) w A0 l0.length l0) (hc0 : l0.length ≤ c0) (h : laminaref03_Nums.f k l0 = some r) :
    Calls Try.prog 33 #[.slice A0 l0.length c0] w fun e w' => ∃ v0_ : Value, e = .returned (v0_) ∧ Kd.R (Kd.int .u8) 5 w' w.heap.size (fun _ => True) v0_ r ∧ Below w.heap.size w w' := by
  have HR0 := Aside0.mk hr0
  have HC0 := Aside0.mk hc0
  clear hr0 hc0
  have HB := Aside0.mk (Below.refl w.heap.size w)
  have H : ((laminaref03_Num.f k (l0.length : Int)).bind fun t112 => (laminaref03_Nums.l0 k l0 t112 0)) = some r := h
  clear h
  replace H := Option.bind_eq_some_iff.mp H
  obtain ⟨t112, A20, H⟩ := H
  replace H : (laminaref03_Nums.l0 k l0 t112 0) = some r := H
  have A2 := Aside0.mk A20
  clear A20
  have H' := Aside0.mk H
  clear H
  go_enter Try.func33, Try.ntmps33
  go_wp2_with (first | ((with_reducible refine gate_callee (f := 34) rfl ?_); refine goesL_ (some 7) rfl rfl Try.func34 (by kernel_rfl) rfl #[.int .i64 (l0.length : Int)] rfl (by (try simp only [List.map_toArray, List.map_cons, List.map_nil]); first | done | rfl | (simp only [List.length_drop, List.length_take]; rfl)) ?_; (with_reducible refine (laminaref03_Num.calls k (l0.length : Int) t112 _ A2.out).mono ?_); rintro e w3 ⟨v113, rfl, ho0, hb⟩; refine ⟨_, rfl, ?_⟩; have n0_ := Aside0.mk (Kd.R_lower ho0 (below_size (by repeat (first | (with_reducible first | exact HB.out | apply below_alloc | apply pw_below_drewN | apply below_drew1) | exact HB.out)))); have n1_ := Aside0.mk (below_step (by repeat (first | (with_reducible first | exact HB.out | apply below_alloc | apply pw_below_drewN | apply below_drew1) | exact HB.out)) hb); clear HB; have HO114 := n0_; have HB := n1_; clear n0_ n1_; (try clear hb); (try clear hb2); (try clear hk); (try clear hi); (try clear ho0)))
  go_loopg [3, 4] k (fun kq v3 v4 w' => ∃ (x3_1 : List Int) (x4_1 : Int), v4 = .int .i64 x4_1 ∧ Aside0 (laminaref03_Nums.l0 kq l0 x3_1 x4_1 = some r) ∧ Aside0 (kq ≤ k) ∧ Aside0 (Kd.R (Kd.int .u8) 5 w' w.heap.size (fun _ => True) v3 x3_1) ∧ Aside0 (Below w.heap.size w w'))
  case atStart => exact ⟨(t112), (0), (by first | rfl | (simp; done) | (simp [*]; done)), H', ⟨Nat.le_refl _⟩, ⟨by (with_reducible repeat (first | apply Kd.R_alloc | apply Kd.R_drewN | apply Kd.R_drew)); exact HO114.out⟩, ⟨by repeat (first | (with_reducible first | exact HB.out | apply below_alloc | apply pw_below_drewN | apply below_drew1) | exact HB.out)⟩⟩
  case round =>
    clear H'
    try clear p2
    try clear c3
    obtain ⟨x3_1, x4_1, rfl, HA, HK1, HO_3, HB⟩ := hrel
    cases gk with
    | zero => exact absurd HA.out (by simp [laminaref03_Nums.l0])
    | succ k1 =>
      have H := HA.out
      clear HA
      simp only [laminaref03_Nums.l0] at H
      by_cases c4 : x4_1 < (l0.length : Int)
      · rw [if_pos c4] at H
        have c4b0 : decide (x4_1 < (l0.length : Int)) = true := decide_eq_true c4
        clear c4
        by_cases c5 : 0 ≤ x4_1
        · rw [if_pos c5] at H
          have c5b0 : decide (0 ≤ x4_1) = true := decide_eq_true c5
          clear c5
          replace H := Option.bind_eq_some_iff.mp H
          obtain ⟨t116, A60, H⟩ := H
          replace H : (if x3_1.length + t116.length < 140737488355328 then (laminaref03_Nums.l0 k1 l0 (x3_1 ++ t116) (wrap64 (x4_1 + 1))) else (none)) = some r := H
          have A6 := Aside0.mk A60
          clear A60
          by_cases c7 : x3_1.length + t116.length < 140737488355328
          · rw [if_pos c7] at H
            have LMc7 := Aside0.mk c7
            clear c7
            obtain ⟨y119, hy119⟩ : ∃ y_ : List Int, y_ = (x3_1 ++ t116) := ⟨_, rfl⟩
            replace H : (laminaref03_Nums.l0 k1 l0 y119 (wrap64 (x4_1 + 1))) = some r := by first | (rw [hy119]; with_reducible exact H) | (have H2_ := (Option.bind_some _ _).symm.trans H; rw [hy119]; with_reducible exact H2_) | (have H2_ := (Option.bind_some _ _).symm.trans H; with_reducible exact H2_) | with_reducible exact H | (rw [hy119]; exact H) | exact H
            have Ny119 := Aside0.mk hy119
            clear hy119
            have H' := Aside0.mk H
            clear H
            have p115 : 0 ≤ (x4_1 : Int) := of_decide_eq_true (by first | (with_reducible assumption) | assumption)
            have q115 : x4_1 < (l0.length : Int) := of_decide_eq_true (by first | (with_reducible assumption) | assumption)
            obtain ⟨ad115, e115, hx115_0⟩ := Kd.at_int HR0.out x4_1 p115 q115
            cases e115
            replace hx115_0 := (HB.out.cell (World.block_lt_of_cell? w _ hx115_0)).trans hx115_0
            replace p115 := eq_true p115
            replace q115 := eq_true q115
            go_wp2_with (first | ((with_reducible refine gate_callee (f := 34) rfl ?_); refine goesL_ (some 19) rfl rfl Try.func34 (by kernel_rfl) rfl #[.int .i64 (rd l0 x4_1)] rfl (by (try simp only [List.map_toArray, List.map_cons, List.map_nil]); first | done | rfl | (simp only [List.length_drop, List.length_take]; rfl)) ?_; (with_reducible refine (laminaref03_Num.calls k1 (rd l0 x4_1) t116 _ A6.out).mono ?_); rintro e w8 ⟨v117, rfl, ho0, hb⟩; refine ⟨_, rfl, ?_⟩; have n0_ := Aside0.mk (Kd.R_elder' (by (with_reducible repeat (first | apply Kd.R_alloc | apply Kd.R_drewN | apply Kd.R_drew)); exact HO_3.out) (Kd.R_base ho0) hb); have n1_ := Aside0.mk (Kd.R_lower (Kd.R_new' ho0 (Kd.R_lt (by (with_reducible repeat (first | apply Kd.R_alloc | apply Kd.R_drewN | apply Kd.R_drew)); exact HO_3.out))) (below_size (by repeat (first | (with_reducible first | exact HB.out | apply below_alloc | apply pw_below_drewN | apply below_drew1) | exact HB.out)))); have n2_ := Aside0.mk (below_step (by repeat (first | (with_reducible first | exact HB.out | apply below_alloc | apply pw_below_drewN | apply below_drew1) | exact HB.out)) hb); clear HO_3; clear HB; have HO_3 := n0_; have HO118 := n1_; have HB := n2_; clear n0_ n1_ n2_; (try clear hb); (try clear hb2); (try clear hk); (try clear hi); (try clear ho0); obtain ⟨Ao10, co10, eo10⟩ := Kd.R_slice HO118.out; subst eo10) | ((with_reducible refine gate_builtin (b := .append) (xs := #[.tmp 14, .tmp 19]) rfl ?_); at_builtin; refine Kd.R_append_rows (Kd.int .u8) (w0 := w) w.heap.size rfl (.tmp 14) (.tmp 19) 26 5 (.int .u8 0) 1 rfl Try.underlying26 info5 rfl (by decide) (by omega) u3 x3_1 t116 _ _ _ (fun k_ => some k_ ≠ (.slice Ao10 t116.length co10 : Value).ownBlock) (fun _ => False) rfl rfl ?aO ?aR (fun _ _ h => h) (fun _ h => h.elim) ?aF ?aB ?aS ?aL ?_; (case aR => repeat (first | exact (Kd.R_reads' HO118.out).2.2 | (with_reducible refine Kd.C_alloc ?_ _) | (with_reducible refine Kd.C_drewN ?_ _) | (with_reducible refine Kd.C_drew ?_))); (case aB => exact (by repeat (first | (with_reducible first | exact HB.out | apply below_alloc | apply pw_below_drewN | apply below_drew1) | exact HB.out))); (case aF => exact (fun k_ hk => Kd.fresh' (Kd.R_lt (by (with_reducible repeat (first | apply Kd.R_alloc | apply Kd.R_drewN | apply Kd.R_drew)); exact HO118.out)) k_ hk)); (case aO => exact (by (with_reducible repeat (first | apply Kd.R_alloc | apply Kd.R_drewN | apply Kd.R_drew)); exact Kd.R_mono HO_3.out (fun _ hk => hk.2))); (case aS => exact (below_size (by repeat (first | (with_reducible first | exact HB.out | apply below_alloc | apply pw_below_drewN | apply below_drew1) | exact HB.out)))); (case aL => have := LMc7.out; omega); intro v120 w9 ho hb hg hat; rw [← Ny119.out] at ho; have n0_ := Aside0.mk (Kd.R_after (ok := (fun _ => True)) (by (with_reducible repeat (first | apply Kd.R_alloc | apply Kd.R_drewN | apply Kd.R_drew)); exact HO118.out) hg hat); have n1_ := Aside0.mk (hb); have n2_ := Aside0.mk (ho); clear HO118; clear HB; clear HO_3; have HO118 := n0_; have HB := n1_; have HO121 := n2_; clear n0_ n1_ n2_; clear ho hb hg hat))
            go_roundg k1
            case measure => have := HK1.out; omega
            case rel => exact ⟨(y119), (wrap64 (x4_1 + 1)), (by first | rfl | (simp; done) | (simp [*]; done)), H', ⟨by have := HK1.out; omega⟩, ⟨by (with_reducible repeat (first | apply Kd.R_alloc | apply Kd.R_drewN | apply Kd.R_drew)); exact Kd.R_mono HO121.out (fun _ hk => trivial)⟩, ⟨by repeat (first | (with_reducible first | exact HB.out | apply below_alloc | apply pw_below_drewN | apply below_drew1) | exact HB.out)⟩⟩
          · rw [if_neg c7] at H
            exact absurd H (by simp)
        · rw [if_neg c5] at H
          exact absurd H (by simp)
      · rw [if_neg c4] at H
        have c4b0 : decide (x4_1 < (l0.length : Int)) = false := decide_eq_false c4
        clear c4
        obtain rfl := Option.some.inj H
        go_wp2
        go_ret
        exact ⟨_, by first | rfl | (simp [errW_none, errW_some] <;> rfl) | (simp [*, errW_none, errW_some] <;> rfl), by (with_reducible repeat (first | apply Kd.R_alloc | apply Kd.R_drewN | apply Kd.R_drew)); exact HO_3.out, by repeat (first | (with_reducible first | exact HB.out | apply below_alloc | apply pw_below_drewN | apply below_drew1) | exact HB.out)⟩

-- AUX rnumw
theorem byte_eq (n : Int) : ∀ i < 8, ((n % 18446744073709551616) / 256 ^ i) % 256 = n / 2 ^ (8 * i) % 256 := by
  intro i hi
  obtain rfl | rfl | rfl | rfl | rfl | rfl | rfl | rfl : i = 0 ∨ i = 1 ∨ i = 2 ∨ i = 3 ∨ i = 4 ∨ i = 5 ∨ i = 6 ∨ i = 7 := by omega
  all_goals (simp only [Nat.mul_zero, Int.pow_zero, show (256 : Int) ^ 1 = 256 by decide, show (256 : Int) ^ 2 = 65536 by decide, show (256 : Int) ^ 3 = 16777216 by decide, show (256 : Int) ^ 4 = 4294967296 by decide, show (256 : Int) ^ 5 = 1099511627776 by decide, show (256 : Int) ^ 6 = 281474976710656 by decide, show (256 : Int) ^ 7 = 72057594037927936 by decide, show (2 : Int) ^ (8 * 1) = 256 by decide, show (2 : Int) ^ (8 * 2) = 65536 by decide, show (2 : Int) ^ (8 * 3) = 16777216 by decide, show (2 : Int) ^ (8 * 4) = 4294967296 by decide, show (2 : Int) ^ (8 * 5) = 1099511627776 by decide, show (2 : Int) ^ (8 * 6) = 281474976710656 by decide, show (2 : Int) ^ (8 * 7) = 72057594037927936 by decide]; omega)
theorem rnum_go (n : Int) : ∀ (r i k : Nat), i + r = 8 → r < k → laminaref03_Num.l0 k ((n % 18446744073709551616) / 256 ^ i) ((List.range i).map fun j => n / 2 ^ (8 * j) % 256) i = some (numL n) := by
  intro r
  induction r with
  | zero =>
    intro i k hi hk
    obtain ⟨k, rfl⟩ : ∃ k', k = k' + 1 := ⟨k - 1, by omega⟩
    rw [laminaref03_Num.l0, if_neg (by omega)]
    obtain rfl : i = 8 := by omega
    rfl
  | succ r ih =>
    intro i k hi hk
    obtain ⟨k, rfl⟩ : ∃ k', k = k' + 1 := ⟨k - 1, by omega⟩
    have h := ih (i + 1) k (by omega) (by omega)
    have e : wrap64 ((i : Int) + 1) = ((i + 1 : Nat) : Int) := by unfold wrap64; omega
    have hP : (0 : Int) < 256 ^ i := Int.pow_pos (by decide)
    have h0 : 0 ≤ (n % 18446744073709551616) / 256 ^ i := Int.ediv_nonneg (by omega) (by omega)
    have h1 : (n % 18446744073709551616) / 256 ^ i ≤ n % 18446744073709551616 := Int.ediv_le_self _ (by omega)
    have hb := byte_eq n i (by omega)
    have hdd : (n % 18446744073709551616) / 256 ^ (i + 1) = (n % 18446744073709551616) / 256 ^ i / 256 := by
      rw [Int.pow_succ, ← Int.ediv_ediv_of_nonneg (by omega)]
    rw [hdd] at h
    generalize (n % 18446744073709551616) / 256 ^ i = u at *
    rw [laminaref03_Num.l0, if_pos (by omega), if_pos (by simp; omega), e]
    rw [Int.tdiv_eq_ediv_of_nonneg h0, Int.tmod_eq_emod_of_nonneg h0, IntWalk.u64_in _ (by omega), show u % 256 % 256 = n / 2 ^ (8 * i) % 256 by omega]
    rw [List.range_succ, List.map_append] at h
    exact h
theorem rnum_f (n : Int) (k : Nat) (hk : 8 < k) : laminaref03_Num.f k n = some (numL n) := by
  unfold laminaref03_Num.f
  have h := rnum_go n 8 0 k (by omega) hk
  have hw : IntKind.u64.wrap n = n % 18446744073709551616 := by
    simp only [IntKind.wrap, IntKind.bits, IntKind.signed, Bool.false_and, Bool.false_eq_true, if_false]
    rfl
  rw [hw]
  simpa using h
theorem rbytes_f (b : List Int) (hl : b.length ≤ 1000000) (k : Nat) (hk : 8 < k) : laminaref03_Bytes.f k b = some (numL b.length ++ b) := by
  unfold laminaref03_Bytes.f
  rw [rnum_f _ k hk, Option.bind_some, if_pos (by rw [numL_len]; omega)]
theorem rnums_go (ns : List Int) (hl : ns.length ≤ 100000) : ∀ (r i k : Nat), i + r = ns.length → 8 + r < k → laminaref03_Nums.l0 k ns (numL ns.length ++ numsL (ns.take i)) i = some (numL ns.length ++ numsL ns) := by
  intro r
  induction r with
  | zero =>
    intro i k hi hk
    obtain ⟨k, rfl⟩ : ∃ k', k = k' + 1 := ⟨k - 1, by omega⟩
    rw [laminaref03_Nums.l0, if_neg (by omega), List.take_of_length_le (by omega)]
  | succ r ih =>
    intro i k hi hk
    obtain ⟨k, rfl⟩ : ∃ k', k = k' + 1 := ⟨k - 1, by omega⟩
    have h := ih (i + 1) k (by omega) (by omega)
    have e : wrap64 ((i : Int) + 1) = ((i + 1 : Nat) : Int) := by unfold wrap64; omega
    have hlen : (numL ns.length ++ numsL (ns.take i)).length ≤ 1000000 := by rw [List.length_append, numL_len, numsL_len, List.length_take]; omega
    rw [laminaref03_Nums.l0, if_pos (by omega), if_pos (by omega), rnum_f _ k (by omega), Option.bind_some, if_pos (by rw [numL_len]; omega), e, List.append_assoc, ← numsL_snoc ns i (by omega)]
    exact h
theorem rnums_f (ns : List Int) (hl : ns.length ≤ 100000) (k : Nat) (hk : 8 + ns.length < k) : laminaref03_Nums.f k ns = some (numL ns.length ++ numsL ns) := by
  unfold laminaref03_Nums.f
  rw [rnum_f _ k (by omega), Option.bind_some]
  have h := rnums_go ns hl ns.length 0 k (by omega) hk
  simpa [numsL] using h

/-! ### laminalaw03_write: function 11 -/
theorem write_byte (S : Nat → Prop) (z : Bool) (h : Value) (l : List Int) (kind n : Int) (T : Nat → Prop) (AB : Option Addr) (cB : Nat) (B : List Int) (AN : Option Addr) (cN : Nat) (Ns : List Int) (w : World) (hw : Wr w S z h l) (hS : ∀ i, S i → i < w.heap.size)
    (hB : Rb w T AB B) (hN : Rk .i64 w T AN Ns) (hd : ∀ i, T i → ¬ S i) (hcB : B.length ≤ cB) (hcN : Ns.length ≤ cN) (hBb : ∀ x ∈ B, 0 ≤ x ∧ x < 256) (hNb : ∀ x ∈ Ns, -9223372036854775808 ≤ x ∧ x ≤ 9223372036854775807) (hn : -9223372036854775808 ≤ n ∧ n ≤ 9223372036854775807)
    (hl : l.length ≤ 1000000) (hBl : B.length ≤ 1000) (hNl : Ns.length ≤ 1000) (hk : kind = 0) :
    Calls Try.prog 11 #[h, .agg #[.int .i64 kind, .int .i64 n, .slice AB B.length cB, .slice AN Ns.length cN]] w fun e w' => ∃ v, e = .returned v ∧ Kd.R (Kd.int .u8) 5 w' w.heap.size (fun _ => True) v ([n % 256]) ∧ WrTo w w' S z h (app z l ([n % 256])) := by
  have HW := Aside0.mk hw
  have HB0 := Aside0.mk (hB.below (below_alloc (Below.refl _ w) (.cells #[.int .i64 kind, .int .i64 n, .slice AB B.length cB, .slice AN Ns.length cN] 31)))
  have HN0 := Aside0.mk (hN.below (below_alloc (Below.refl _ w) (.cells #[.int .i64 kind, .int .i64 n, .slice AB B.length cB, .slice AN Ns.length cN] 31)))
  have HBb := Aside0.mk hBb
  have HNb := Aside0.mk hNb
  obtain ⟨hn1, hn2⟩ := hn
  clear hw hB hN hBb hNb
  subst hk
  go_enter Try.func11, Try.ntmps11
  go_wp2_with fail
  refine (wire_Writer_Byte.calls S z h l (n % 256) _ (HW.out.below (below_alloc (Below.refl _ _) _)) (by omega)).mono ?_
  rintro e w1 ⟨rfl, hx⟩
  have hb1 : w1.heap[w.heap.size]? = some (.cells #[.int .i64 0, .int .i64 n, .slice AB B.length cB, .slice AN Ns.length cN] 31 (0, 0)) := hx.only.same_block (heap_alloc_new w _) (fun h => by have := hS _ h; omega)
  have c1 : w1.cell? ⟨w.heap.size, 1, none⟩ = some (.int .i64 n) := by rw [cell_of hb1]; rfl
  have c2 : w1.cell? ⟨w.heap.size, 2, none⟩ = some (.slice AB B.length cB) := by rw [cell_of hb1]; rfl
  have c3 : w1.cell? ⟨w.heap.size, 3, none⟩ = some (.slice AN Ns.length cN) := by rw [cell_of hb1]; rfl
  have HX := Aside0.mk (hx.late (below_alloc (Below.refl _ _) (.cells #[.int .i64 0, .int .i64 n, .slice AB B.length cB, .slice AN Ns.length cN] 31)))
  clear hb1 hx
  go_wp2
  go_ret
  exact ⟨_, rfl, R_lit w1 w.heap.size [n % 256] HX.out.only.size (by simp), HX.out.below (below_alloc (Below.refl _ _) _)⟩
theorem write_flag_true (S : Nat → Prop) (z : Bool) (h : Value) (l : List Int) (kind n : Int) (T : Nat → Prop) (AB : Option Addr) (cB : Nat) (B : List Int) (AN : Option Addr) (cN : Nat) (Ns : List Int) (w : World) (hw : Wr w S z h l) (hS : ∀ i, S i → i < w.heap.size)
    (hB : Rb w T AB B) (hN : Rk .i64 w T AN Ns) (hd : ∀ i, T i → ¬ S i) (hcB : B.length ≤ cB) (hcN : Ns.length ≤ cN) (hBb : ∀ x ∈ B, 0 ≤ x ∧ x < 256) (hNb : ∀ x ∈ Ns, -9223372036854775808 ≤ x ∧ x ≤ 9223372036854775807) (hn : -9223372036854775808 ≤ n ∧ n ≤ 9223372036854775807)
    (hl : l.length ≤ 1000000) (hBl : B.length ≤ 1000) (hNl : Ns.length ≤ 1000) (hk : kind = 2) (h1 : n = 1) :
    Calls Try.prog 11 #[h, .agg #[.int .i64 kind, .int .i64 n, .slice AB B.length cB, .slice AN Ns.length cN]] w fun e w' => ∃ v, e = .returned v ∧ Kd.R (Kd.int .u8) 5 w' w.heap.size (fun _ => True) v ([1]) ∧ WrTo w w' S z h (app z l ([1])) := by
  have HW := Aside0.mk hw
  have HB0 := Aside0.mk (hB.below (below_alloc (Below.refl _ w) (.cells #[.int .i64 kind, .int .i64 n, .slice AB B.length cB, .slice AN Ns.length cN] 31)))
  have HN0 := Aside0.mk (hN.below (below_alloc (Below.refl _ w) (.cells #[.int .i64 kind, .int .i64 n, .slice AB B.length cB, .slice AN Ns.length cN] 31)))
  have HBb := Aside0.mk hBb
  have HNb := Aside0.mk hNb
  obtain ⟨hn1, hn2⟩ := hn
  clear hw hB hN hBb hNb
  subst hk
  subst h1
  go_enter Try.func11, Try.ntmps11
  go_wp2_with fail
  refine (wire_Writer_Flag.calls S z h l true _ (HW.out.below (below_alloc (Below.refl _ _) _)) (by omega)).mono ?_
  rintro e w1 ⟨rfl, hx⟩
  have hb1 : w1.heap[w.heap.size]? = some (.cells #[.int .i64 2, .int .i64 1, .slice AB B.length cB, .slice AN Ns.length cN] 31 (0, 0)) := hx.only.same_block (heap_alloc_new w _) (fun h => by have := hS _ h; omega)
  have c1 : w1.cell? ⟨w.heap.size, 1, none⟩ = some (.int .i64 1) := by rw [cell_of hb1]; rfl
  have c2 : w1.cell? ⟨w.heap.size, 2, none⟩ = some (.slice AB B.length cB) := by rw [cell_of hb1]; rfl
  have c3 : w1.cell? ⟨w.heap.size, 3, none⟩ = some (.slice AN Ns.length cN) := by rw [cell_of hb1]; rfl
  have HX := Aside0.mk (hx.late (below_alloc (Below.refl _ _) (.cells #[.int .i64 2, .int .i64 1, .slice AB B.length cB, .slice AN Ns.length cN] 31)))
  clear hb1 hx
  go_wp2
  go_ret
  exact ⟨_, rfl, R_lit w1 w.heap.size [1] HX.out.only.size (by simp), HX.out.below (below_alloc (Below.refl _ _) _)⟩
theorem write_flag_false (S : Nat → Prop) (z : Bool) (h : Value) (l : List Int) (kind n : Int) (T : Nat → Prop) (AB : Option Addr) (cB : Nat) (B : List Int) (AN : Option Addr) (cN : Nat) (Ns : List Int) (w : World) (hw : Wr w S z h l) (hS : ∀ i, S i → i < w.heap.size)
    (hB : Rb w T AB B) (hN : Rk .i64 w T AN Ns) (hd : ∀ i, T i → ¬ S i) (hcB : B.length ≤ cB) (hcN : Ns.length ≤ cN) (hBb : ∀ x ∈ B, 0 ≤ x ∧ x < 256) (hNb : ∀ x ∈ Ns, -9223372036854775808 ≤ x ∧ x ≤ 9223372036854775807) (hn : -9223372036854775808 ≤ n ∧ n ≤ 9223372036854775807)
    (hl : l.length ≤ 1000000) (hBl : B.length ≤ 1000) (hNl : Ns.length ≤ 1000) (hk : kind = 2) (h1 : ¬ n = 1) :
    Calls Try.prog 11 #[h, .agg #[.int .i64 kind, .int .i64 n, .slice AB B.length cB, .slice AN Ns.length cN]] w fun e w' => ∃ v, e = .returned v ∧ Kd.R (Kd.int .u8) 5 w' w.heap.size (fun _ => True) v ([0]) ∧ WrTo w w' S z h (app z l ([0])) := by
  have HW := Aside0.mk hw
  have HB0 := Aside0.mk (hB.below (below_alloc (Below.refl _ w) (.cells #[.int .i64 kind, .int .i64 n, .slice AB B.length cB, .slice AN Ns.length cN] 31)))
  have HN0 := Aside0.mk (hN.below (below_alloc (Below.refl _ w) (.cells #[.int .i64 kind, .int .i64 n, .slice AB B.length cB, .slice AN Ns.length cN] 31)))
  have HBb := Aside0.mk hBb
  have HNb := Aside0.mk hNb
  obtain ⟨hn1, hn2⟩ := hn
  clear hw hB hN hBb hNb
  subst hk
  have k1 : (n == 1) = false := by rw [beq_eq_false_iff_ne]; exact h1
  go_enter Try.func11, Try.ntmps11
  go_wp2_with fail
  refine (wire_Writer_Flag.calls S z h l false _ (HW.out.below (below_alloc (Below.refl _ _) _)) (by omega)).mono ?_
  rintro e w1 ⟨rfl, hx⟩
  have hb1 : w1.heap[w.heap.size]? = some (.cells #[.int .i64 2, .int .i64 n, .slice AB B.length cB, .slice AN Ns.length cN] 31 (0, 0)) := hx.only.same_block (heap_alloc_new w _) (fun h => by have := hS _ h; omega)
  have c1 : w1.cell? ⟨w.heap.size, 1, none⟩ = some (.int .i64 n) := by rw [cell_of hb1]; rfl
  have c2 : w1.cell? ⟨w.heap.size, 2, none⟩ = some (.slice AB B.length cB) := by rw [cell_of hb1]; rfl
  have c3 : w1.cell? ⟨w.heap.size, 3, none⟩ = some (.slice AN Ns.length cN) := by rw [cell_of hb1]; rfl
  have HX := Aside0.mk (hx.late (below_alloc (Below.refl _ _) (.cells #[.int .i64 2, .int .i64 n, .slice AB B.length cB, .slice AN Ns.length cN] 31)))
  clear hb1 hx
  go_wp2
  go_ret
  exact ⟨_, rfl, R_lit w1 w.heap.size [0] HX.out.only.size (by simp), HX.out.below (below_alloc (Below.refl _ _) _)⟩
theorem write_bytes (S : Nat → Prop) (z : Bool) (h : Value) (l : List Int) (kind n : Int) (T : Nat → Prop) (AB : Option Addr) (cB : Nat) (B : List Int) (AN : Option Addr) (cN : Nat) (Ns : List Int) (w : World) (hw : Wr w S z h l) (hS : ∀ i, S i → i < w.heap.size)
    (hB : Rb w T AB B) (hN : Rk .i64 w T AN Ns) (hd : ∀ i, T i → ¬ S i) (hcB : B.length ≤ cB) (hcN : Ns.length ≤ cN) (hBb : ∀ x ∈ B, 0 ≤ x ∧ x < 256) (hNb : ∀ x ∈ Ns, -9223372036854775808 ≤ x ∧ x ≤ 9223372036854775807) (hn : -9223372036854775808 ≤ n ∧ n ≤ 9223372036854775807)
    (hl : l.length ≤ 1000000) (hBl : B.length ≤ 1000) (hNl : Ns.length ≤ 1000) (hk : kind = 3) :
    Calls Try.prog 11 #[h, .agg #[.int .i64 kind, .int .i64 n, .slice AB B.length cB, .slice AN Ns.length cN]] w fun e w' => ∃ v, e = .returned v ∧ Kd.R (Kd.int .u8) 5 w' w.heap.size (fun _ => True) v (numL B.length ++ B) ∧ WrTo w w' S z h (app z l (numL B.length ++ B)) := by
  have HW := Aside0.mk hw
  have HB0 := Aside0.mk (hB.below (below_alloc (Below.refl _ w) (.cells #[.int .i64 kind, .int .i64 n, .slice AB B.length cB, .slice AN Ns.length cN] 31)))
  have HN0 := Aside0.mk (hN.below (below_alloc (Below.refl _ w) (.cells #[.int .i64 kind, .int .i64 n, .slice AB B.length cB, .slice AN Ns.length cN] 31)))
  have HBb := Aside0.mk hBb
  have HNb := Aside0.mk hNb
  obtain ⟨hn1, hn2⟩ := hn
  clear hw hB hN hBb hNb
  subst hk
  go_enter Try.func11, Try.ntmps11
  go_wp2_with fail
  refine (wire_Writer_Bytes.calls S z h l T AB cB B _ (HW.out.below (below_alloc (Below.refl _ _) _)) HB0.out hd (by omega)).mono ?_
  rintro e w1 ⟨rfl, hx⟩
  have hb1 : w1.heap[w.heap.size]? = some (.cells #[.int .i64 3, .int .i64 n, .slice AB B.length cB, .slice AN Ns.length cN] 31 (0, 0)) := hx.only.same_block (heap_alloc_new w _) (fun h => by have := hS _ h; omega)
  have c1 : w1.cell? ⟨w.heap.size, 1, none⟩ = some (.int .i64 n) := by rw [cell_of hb1]; rfl
  have c2 : w1.cell? ⟨w.heap.size, 2, none⟩ = some (.slice AB B.length cB) := by rw [cell_of hb1]; rfl
  have c3 : w1.cell? ⟨w.heap.size, 3, none⟩ = some (.slice AN Ns.length cN) := by rw [cell_of hb1]; rfl
  have HX0 := Aside0.mk hx
  have HX := Aside0.mk (hx.late (below_alloc (Below.refl _ _) (.cells #[.int .i64 3, .int .i64 n, .slice AB B.length cB, .slice AN Ns.length cN] 31)))
  clear hb1 hx
  go_wp2_with fail
  refine (laminaref03_Bytes.calls 9 AB cB B _ _ (HB0.out.only HX0.out.only hd).row hcB (rbytes_f B (by omega) 9 (by omega))).mono ?_
  rintro e w2 ⟨v, rfl, ho, hb⟩
  obtain ⟨A2, c2', hv, -⟩ := Kd.R_reads ho
  generalize List.length _ = m2 at hv
  subst hv
  have HO := Aside0.mk ho
  have HB := Aside0.mk hb
  clear ho hb c1 c2 c3
  go_wp2
  go_ret
  exact ⟨_, rfl, Kd.R_lower HO.out HX.out.only.size, HX.out.below HB.out⟩
theorem write_text (S : Nat → Prop) (z : Bool) (h : Value) (l : List Int) (kind n : Int) (T : Nat → Prop) (AB : Option Addr) (cB : Nat) (B : List Int) (AN : Option Addr) (cN : Nat) (Ns : List Int) (w : World) (hw : Wr w S z h l) (hS : ∀ i, S i → i < w.heap.size)
    (hB : Rb w T AB B) (hN : Rk .i64 w T AN Ns) (hd : ∀ i, T i → ¬ S i) (hcB : B.length ≤ cB) (hcN : Ns.length ≤ cN) (hBb : ∀ x ∈ B, 0 ≤ x ∧ x < 256) (hNb : ∀ x ∈ Ns, -9223372036854775808 ≤ x ∧ x ≤ 9223372036854775807) (hn : -9223372036854775808 ≤ n ∧ n ≤ 9223372036854775807)
    (hl : l.length ≤ 1000000) (hBl : B.length ≤ 1000) (hNl : Ns.length ≤ 1000) (hk : kind = 4) :
    Calls Try.prog 11 #[h, .agg #[.int .i64 kind, .int .i64 n, .slice AB B.length cB, .slice AN Ns.length cN]] w fun e w' => ∃ v, e = .returned v ∧ Kd.R (Kd.int .u8) 5 w' w.heap.size (fun _ => True) v (numL B.length ++ B) ∧ WrTo w w' S z h (app z l (numL B.length ++ B)) := by
  have HW := Aside0.mk hw
  have HB0 := Aside0.mk (hB.below (below_alloc (Below.refl _ w) (.cells #[.int .i64 kind, .int .i64 n, .slice AB B.length cB, .slice AN Ns.length cN] 31)))
  have HN0 := Aside0.mk (hN.below (below_alloc (Below.refl _ w) (.cells #[.int .i64 kind, .int .i64 n, .slice AB B.length cB, .slice AN Ns.length cN] 31)))
  have HBb := Aside0.mk hBb
  have HNb := Aside0.mk hNb
  obtain ⟨hn1, hn2⟩ := hn
  clear hw hB hN hBb hNb
  subst hk
  have hcv := Kd.C_string (P := Try.prog) (A := AB) (c := cB) Try.underlying26 Try.underlying5 Try.underlying9 HB0.out.row
  have hbs := bytesOf_str HBb.out
  have hsl : (strOfNums B).size = B.length := by rw [← bytesOf_length, hbs]
  have HBS := Aside0.mk hbs
  have HSL := Aside0.mk hsl
  clear hbs hsl
  go_enter Try.func11, Try.ntmps11
  go_wp2_with fail
  refine (wire_Writer_Text.calls S z h l (strOfNums B) _ (HW.out.below (below_alloc (Below.refl _ _) _)) (by rw [HSL.out]; omega)).mono ?_
  rintro e w1 ⟨rfl, hx⟩
  rw [HSL.out, HBS.out] at hx
  have hb1 : w1.heap[w.heap.size]? = some (.cells #[.int .i64 4, .int .i64 n, .slice AB B.length cB, .slice AN Ns.length cN] 31 (0, 0)) := hx.only.same_block (heap_alloc_new w _) (fun h => by have := hS _ h; omega)
  have c1 : w1.cell? ⟨w.heap.size, 1, none⟩ = some (.int .i64 n) := by rw [cell_of hb1]; rfl
  have c2 : w1.cell? ⟨w.heap.size, 2, none⟩ = some (.slice AB B.length cB) := by rw [cell_of hb1]; rfl
  have c3 : w1.cell? ⟨w.heap.size, 3, none⟩ = some (.slice AN Ns.length cN) := by rw [cell_of hb1]; rfl
  have HX0 := Aside0.mk hx
  have HX := Aside0.mk (hx.late (below_alloc (Below.refl _ _) (.cells #[.int .i64 4, .int .i64 n, .slice AB B.length cB, .slice AN Ns.length cN] 31)))
  clear hb1 hx
  go_wp2_with fail
  refine (laminaref03_Bytes.calls 9 AB cB B _ _ (HB0.out.only HX0.out.only hd).row hcB (rbytes_f B (by omega) 9 (by omega))).mono ?_
  rintro e w2 ⟨v, rfl, ho, hb⟩
  obtain ⟨A2, c2', hv, -⟩ := Kd.R_reads ho
  generalize List.length _ = m2 at hv
  subst hv
  have HO := Aside0.mk ho
  have HB := Aside0.mk hb
  clear ho hb c1 c2 c3
  go_wp2
  go_ret
  exact ⟨_, rfl, Kd.R_lower HO.out HX.out.only.size, HX.out.below HB.out⟩
theorem write_nums (S : Nat → Prop) (z : Bool) (h : Value) (l : List Int) (kind n : Int) (T : Nat → Prop) (AB : Option Addr) (cB : Nat) (B : List Int) (AN : Option Addr) (cN : Nat) (Ns : List Int) (w : World) (hw : Wr w S z h l) (hS : ∀ i, S i → i < w.heap.size)
    (hB : Rb w T AB B) (hN : Rk .i64 w T AN Ns) (hd : ∀ i, T i → ¬ S i) (hcB : B.length ≤ cB) (hcN : Ns.length ≤ cN) (hBb : ∀ x ∈ B, 0 ≤ x ∧ x < 256) (hNb : ∀ x ∈ Ns, -9223372036854775808 ≤ x ∧ x ≤ 9223372036854775807) (hn : -9223372036854775808 ≤ n ∧ n ≤ 9223372036854775807)
    (hl : l.length ≤ 1000000) (hBl : B.length ≤ 1000) (hNl : Ns.length ≤ 1000) (hk : kind = 5) :
    Calls Try.prog 11 #[h, .agg #[.int .i64 kind, .int .i64 n, .slice AB B.length cB, .slice AN Ns.length cN]] w fun e w' => ∃ v, e = .returned v ∧ Kd.R (Kd.int .u8) 5 w' w.heap.size (fun _ => True) v (numL Ns.length ++ numsL Ns) ∧ WrTo w w' S z h (app z l (numL Ns.length ++ numsL Ns)) := by
  have HW := Aside0.mk hw
  have HB0 := Aside0.mk (hB.below (below_alloc (Below.refl _ w) (.cells #[.int .i64 kind, .int .i64 n, .slice AB B.length cB, .slice AN Ns.length cN] 31)))
  have HN0 := Aside0.mk (hN.below (below_alloc (Below.refl _ w) (.cells #[.int .i64 kind, .int .i64 n, .slice AB B.length cB, .slice AN Ns.length cN] 31)))
  have HBb := Aside0.mk hBb
  have HNb := Aside0.mk hNb
  obtain ⟨hn1, hn2⟩ := hn
  clear hw hB hN hBb hNb
  subst hk
  go_enter Try.func11, Try.ntmps11
  go_wp2_with fail
  refine (wire_Writer_Nums.calls S z h l T AN cN Ns _ (HW.out.below (below_alloc (Below.refl _ _) _)) HN0.out hd HNb.out (by omega)).mono ?_
  rintro e w1 ⟨rfl, hx⟩
  have hb1 : w1.heap[w.heap.size]? = some (.cells #[.int .i64 5, .int .i64 n, .slice AB B.length cB, .slice AN Ns.length cN] 31 (0, 0)) := hx.only.same_block (heap_alloc_new w _) (fun h => by have := hS _ h; omega)
  have c1 : w1.cell? ⟨w.heap.size, 1, none⟩ = some (.int .i64 n) := by rw [cell_of hb1]; rfl
  have c2 : w1.cell? ⟨w.heap.size, 2, none⟩ = some (.slice AB B.length cB) := by rw [cell_of hb1]; rfl
  have c3 : w1.cell? ⟨w.heap.size, 3, none⟩ = some (.slice AN Ns.length cN) := by rw [cell_of hb1]; rfl
  have HX0 := Aside0.mk hx
  have HX := Aside0.mk (hx.late (below_alloc (Below.refl _ _) (.cells #[.int .i64 5, .int .i64 n, .slice AB B.length cB, .slice AN Ns.length cN] 31)))
  clear hb1 hx
  go_wp2_with fail
  refine (laminaref03_Nums.calls 2000 AN cN Ns _ _ (HN0.out.only HX0.out.only hd).row hcN (rnums_f Ns (by omega) 2000 (by omega))).mono ?_
  rintro e w2 ⟨v, rfl, ho, hb⟩
  obtain ⟨A2, c2', hv, -⟩ := Kd.R_reads ho
  generalize List.length _ = m2 at hv
  subst hv
  have HO := Aside0.mk ho
  have HB := Aside0.mk hb
  clear ho hb c1 c2 c3
  go_wp2
  go_ret
  exact ⟨_, rfl, Kd.R_lower HO.out HX.out.only.size, HX.out.below HB.out⟩
theorem write_num (S : Nat → Prop) (z : Bool) (h : Value) (l : List Int) (kind n : Int) (T : Nat → Prop) (AB : Option Addr) (cB : Nat) (B : List Int) (AN : Option Addr) (cN : Nat) (Ns : List Int) (w : World) (hw : Wr w S z h l) (hS : ∀ i, S i → i < w.heap.size)
    (hB : Rb w T AB B) (hN : Rk .i64 w T AN Ns) (hd : ∀ i, T i → ¬ S i) (hcB : B.length ≤ cB) (hcN : Ns.length ≤ cN) (hBb : ∀ x ∈ B, 0 ≤ x ∧ x < 256) (hNb : ∀ x ∈ Ns, -9223372036854775808 ≤ x ∧ x ≤ 9223372036854775807) (hn : -9223372036854775808 ≤ n ∧ n ≤ 9223372036854775807)
    (hl : l.length ≤ 1000000) (hBl : B.length ≤ 1000) (hNl : Ns.length ≤ 1000) (h0 : ¬ kind = 0) (h2 : ¬ kind = 2) (h3 : ¬ kind = 3) (h4 : ¬ kind = 4) (h5 : ¬ kind = 5) :
    Calls Try.prog 11 #[h, .agg #[.int .i64 kind, .int .i64 n, .slice AB B.length cB, .slice AN Ns.length cN]] w fun e w' => ∃ v, e = .returned v ∧ Kd.R (Kd.int .u8) 5 w' w.heap.size (fun _ => True) v (numL n) ∧ WrTo w w' S z h (app z l (numL n)) := by
  have HW := Aside0.mk hw
  have HB0 := Aside0.mk (hB.below (below_alloc (Below.refl _ w) (.cells #[.int .i64 kind, .int .i64 n, .slice AB B.length cB, .slice AN Ns.length cN] 31)))
  have HN0 := Aside0.mk (hN.below (below_alloc (Below.refl _ w) (.cells #[.int .i64 kind, .int .i64 n, .slice AB B.length cB, .slice AN Ns.length cN] 31)))
  have HBb := Aside0.mk hBb
  have HNb := Aside0.mk hNb
  obtain ⟨hn1, hn2⟩ := hn
  clear hw hB hN hBb hNb
  have k0 : (kind == 0) = false := by rw [beq_eq_false_iff_ne]; omega
  have k2 : (kind == 2) = false := by rw [beq_eq_false_iff_ne]; omega
  have k3 : (kind == 3) = false := by rw [beq_eq_false_iff_ne]; omega
  have k4 : (kind == 4) = false := by rw [beq_eq_false_iff_ne]; omega
  have k5 : (kind == 5) = false := by rw [beq_eq_false_iff_ne]; omega
  go_enter Try.func11, Try.ntmps11
  go_wp2_with fail
  refine (wire_Writer_Num.calls S z h l n _ (HW.out.below (below_alloc (Below.refl _ _) _)) (by omega) hn1 hn2).mono ?_
  rintro e w1 ⟨rfl, hx⟩
  have hb1 : w1.heap[w.heap.size]? = some (.cells #[.int .i64 kind, .int .i64 n, .slice AB B.length cB, .slice AN Ns.length cN] 31 (0, 0)) := hx.only.same_block (heap_alloc_new w _) (fun h => by have := hS _ h; omega)
  have c1 : w1.cell? ⟨w.heap.size, 1, none⟩ = some (.int .i64 n) := by rw [cell_of hb1]; rfl
  have c2 : w1.cell? ⟨w.heap.size, 2, none⟩ = some (.slice AB B.length cB) := by rw [cell_of hb1]; rfl
  have c3 : w1.cell? ⟨w.heap.size, 3, none⟩ = some (.slice AN Ns.length cN) := by rw [cell_of hb1]; rfl
  have HX := Aside0.mk (hx.late (below_alloc (Below.refl _ _) (.cells #[.int .i64 kind, .int .i64 n, .slice AB B.length cB, .slice AN Ns.length cN] 31)))
  clear hb1 hx
  go_wp2_with fail
  refine (laminaref03_Num.calls 9 n _ _ (rnum_f n 9 (by omega))).mono ?_
  rintro e w2 ⟨v, rfl, ho, hb⟩
  obtain ⟨A2, c2', hv, -⟩ := Kd.R_reads ho
  generalize List.length _ = m2 at hv
  subst hv
  have HO := Aside0.mk ho
  have HB := Aside0.mk hb
  clear ho hb c1 c2 c3
  go_wp2
  go_ret
  exact ⟨_, rfl, Kd.R_lower HO.out HX.out.only.size, HX.out.below HB.out⟩
theorem laminalaw03_write.calls (S : Nat → Prop) (z : Bool) (h : Value) (l : List Int) (kind n : Int) (T : Nat → Prop) (AB : Option Addr) (cB : Nat) (B : List Int) (AN : Option Addr) (cN : Nat) (Ns : List Int) (w : World) (hw : Wr w S z h l) (hS : ∀ i, S i → i < w.heap.size)
    (hB : Rb w T AB B) (hN : Rk .i64 w T AN Ns) (hd : ∀ i, T i → ¬ S i) (hcB : B.length ≤ cB) (hcN : Ns.length ≤ cN) (hBb : ∀ x ∈ B, 0 ≤ x ∧ x < 256) (hNb : ∀ x ∈ Ns, -9223372036854775808 ≤ x ∧ x ≤ 9223372036854775807) (hn : -9223372036854775808 ≤ n ∧ n ≤ 9223372036854775807)
    (hl : l.length ≤ 1000000) (hBl : B.length ≤ 1000) (hNl : Ns.length ≤ 1000) :
    Calls Try.prog 11 #[h, .agg #[.int .i64 kind, .int .i64 n, .slice AB B.length cB, .slice AN Ns.length cN]] w fun e w' => ∃ v, e = .returned v ∧ Kd.R (Kd.int .u8) 5 w' w.heap.size (fun _ => True) v (valL kind n B Ns) ∧ WrTo w w' S z h (app z l (valL kind n B Ns)) := by
  by_cases h0 : kind = 0
  · rw [show valL kind n B Ns = [n % 256] by unfold valL; rw [if_pos h0]]
    exact write_byte S z h l kind n T AB cB B AN cN Ns w hw hS hB hN hd hcB hcN hBb hNb hn hl hBl hNl h0
  by_cases h2 : kind = 2
  · by_cases h1 : n = 1
    · rw [show valL kind n B Ns = [1] by unfold valL; rw [if_neg h0, if_pos h2, if_pos h1]]
      exact write_flag_true S z h l kind n T AB cB B AN cN Ns w hw hS hB hN hd hcB hcN hBb hNb hn hl hBl hNl h2 h1
    · rw [show valL kind n B Ns = [0] by unfold valL; rw [if_neg h0, if_pos h2, if_neg h1]]
      exact write_flag_false S z h l kind n T AB cB B AN cN Ns w hw hS hB hN hd hcB hcN hBb hNb hn hl hBl hNl h2 h1
  by_cases h3 : kind = 3
  · rw [show valL kind n B Ns = numL B.length ++ B by unfold valL; rw [if_neg h0, if_neg h2, if_pos h3]]
    exact write_bytes S z h l kind n T AB cB B AN cN Ns w hw hS hB hN hd hcB hcN hBb hNb hn hl hBl hNl h3
  by_cases h4 : kind = 4
  · rw [show valL kind n B Ns = numL B.length ++ B by unfold valL; rw [if_neg h0, if_neg h2, if_neg h3, if_pos h4]]
    exact write_text S z h l kind n T AB cB B AN cN Ns w hw hS hB hN hd hcB hcN hBb hNb hn hl hBl hNl h4
  by_cases h5 : kind = 5
  · rw [show valL kind n B Ns = numL Ns.length ++ numsL Ns by unfold valL; rw [if_neg h0, if_neg h2, if_neg h3, if_neg h4, if_pos h5]]
    exact write_nums S z h l kind n T AB cB B AN cN Ns w hw hS hB hN hd hcB hcN hBb hNb hn hl hBl hNl h5
  · rw [show valL kind n B Ns = numL n by unfold valL; rw [if_neg h0, if_neg h2, if_neg h3, if_neg h4, if_neg h5]]
    exact write_num S z h l kind n T AB cB B AN cN Ns w hw hS hB hN hd hcB hcN hBb hNb hn hl hBl hNl h0 h2 h3 h4 h5

-- AUX allw
def allL : List S31 → List Int
  | [] => []
  | x :: t => valL x.f0 x.f1 x.f2 x.f3 ++ allL t
/-- What is known of the values that come in. -/
def ValsOk (l0 : List S31) : Prop := ∀ x ∈ l0, (Lit.int .i64 x.f0).wf = true ∧ (Lit.int .i64 x.f1).wf = true ∧ (x.f2.length * 1 ≤ 140737488351232 ∧ ∀ n ∈ x.f2, (Lit.int .u8 n).wf = true) ∧ (x.f3.length * 8 ≤ 140737488351232 ∧ ∀ n ∈ x.f3, (Lit.int .i64 n).wf = true)
theorem allL_snoc (l : List S31) (k : Nat) (h : k < l.length) : allL (l.take (k + 1)) = allL (l.take k) ++ valL (rd_T31 l k).f0 (rd_T31 l k).f1 (rd_T31 l k).f2 (rd_T31 l k).f3 := by
  induction l generalizing k with
  | nil => simp at h
  | cons x t ih =>
    rcases k with _ | k
    · simp [allL, rd_T31]
    · have e : rd_T31 (x :: t) ((k + 1 : Nat) : Int) = rd_T31 t (k : Nat) := by simp [rd_T31]
      rw [List.take_succ_cons, List.take_succ_cons, allL, allL, ih k (by simpa using h), e, List.append_assoc]
theorem allL_len (l : List S31) (h : ∀ j : Nat, j < l.length → (rd_T31 l j).f2.length ≤ 300 ∧ (rd_T31 l j).f3.length ≤ 50) (k : Nat) (hk : k ≤ l.length) : (allL (l.take k)).length ≤ 9000 * k := by
  induction k with
  | zero => simp [allL]
  | succ k ih =>
    rw [allL_snoc l k (by omega), List.length_append]
    have := ih (by omega)
    have h2 := h k (by omega)
    have := valL_len (rd_T31 l k).f0 (rd_T31 l k).f1 (rd_T31 l k).f2 (rd_T31 l k).f3 (by omega) (by omega)
    omega
theorem vals_ok {l : List S31} (h : ValsOk l) (k : Nat) (hk : k < l.length) : (-9223372036854775808 ≤ (rd_T31 l k).f1 ∧ (rd_T31 l k).f1 ≤ 9223372036854775807) ∧ (∀ x ∈ (rd_T31 l k).f2, 0 ≤ x ∧ x < 256) ∧ (∀ x ∈ (rd_T31 l k).f3, -9223372036854775808 ≤ x ∧ x ≤ 9223372036854775807) := by
  have e : rd_T31 l (k : Int) = l[k] := by simp [rd_T31, hk]
  rw [e]
  obtain ⟨_, h1, h2, h3⟩ := h _ (List.getElem_mem hk)
  exact ⟨wf_i64 h1, fun x hx => wf_u8 (h2.2 x hx), fun x hx => wf_i64 (h3.2 x hx)⟩

/-! ### laminalaw03_back: function 25 -/
theorem allL_split (l : List S31) : ∀ k : Nat, allL l = allL (l.take k) ++ allL (l.drop k) := by
  induction l with
  | nil => intro k; simp [allL]
  | cons x t ih =>
    intro k
    rcases k with _ | k
    · simp [allL]
    · rw [List.take_succ_cons, List.drop_succ_cons, allL, allL, List.append_assoc, ← ih k]
theorem RdTo.late {w w1 w2 : World} {S : Nat → Prop} {h : Value} {l : List Int} {bad : Bool} (k : Below w.heap.size w w1) (x : RdTo w1 w2 S h l bad) : RdTo w w2 S h l bad := ⟨x.rd, (Only.of_below k _).same x.only⟩
theorem RdTo.below {w w1 w2 : World} {S : Nat → Prop} {h : Value} {l : List Int} {bad : Bool} (x : RdTo w w1 S h l bad) (k : Below w1.heap.size w1 w2) : RdTo w w2 S h l bad := ⟨x.rd.below k, x.only.below_ k⟩
theorem allL_drop (l : List S31) (k : Nat) (h : k < l.length) : allL (l.drop k) = valL (rd_T31 l k).f0 (rd_T31 l k).f1 (rd_T31 l k).f2 (rd_T31 l k).f3 ++ allL (l.drop (k + 1)) := by
  have e : rd_T31 l (k : Int) = l[k] := by simp [rd_T31, h]
  rw [e, List.drop_eq_getElem_cons h]
  rfl
set_option maxHeartbeats 8000000 in
theorem laminalaw03_back.calls (S : Nat → Prop) (p : Nat) (A0 : Option Addr) (c0 : Nat) (l0 : List S31) (w0 w : World) (hr : Rd w S (.pointer (some ⟨p, 0, none⟩)) (allL l0) false) (hS : ∀ i, S i → i < w.heap.size ∧ w0.heap.size ≤ i) (hp : w0.heap.size ≤ p ∧ p < w.heap.size) (hr0 : Kd.C k31 w0 A0 l0.length l0) (hB : Below w0.heap.size w0 w) (hlen : l0.length ≤ 41) (hbd : ∀ j : Nat, j < l0.length → (rd_T31 l0 j).f2.length ≤ 300 ∧ (rd_T31 l0 j).f3.length ≤ 50) (hg : ValsOk l0) :
    Calls Try.prog 25 #[.pointer (some ⟨p, 0, none⟩), .slice A0 l0.length c0] w fun e w' => e = .returned (.bool true) ∧ RdTo w w' S (.pointer (some ⟨p, 0, none⟩)) [] false := by
  have HR := Aside0.mk hr
  have HS := Aside0.mk hS
  have HR0 := Aside0.mk hr0
  have HB := Aside0.mk hB
  have HBD := Aside0.mk hbd
  have HG := Aside0.mk hg
  have HPT := Aside0.mk (show ∀ i, Pt (.pointer (some ⟨p, 0, none⟩)) i → i < w.heap.size ∧ w0.heap.size ≤ i from fun i hi => by
    have : p = i := by simpa [Pt] using hi
    omega)
  have HLL := Aside0.mk (allL_len l0 hbd)
  have hs0 := hB.size
  clear hr hS hr0 hB hbd hg
  go_enter Try.func25, Try.ntmps25
  go_wp2
  go_loopw [6, 7, 10] (fun _ _ v10 wr => ∃ k : Nat, k ≤ l0.length ∧ v10 = .int .i64 k ∧ Aside0 (RdTo w wr S (.pointer (some ⟨p, 0, none⟩)) (allL (l0.drop k)) false)) (fun _ _ v10 _ => l0.length - (intOf v10).toNat)
  case atStart => exact ⟨0, by omega, rfl, ⟨RdTo.refl HR.out⟩⟩
  case round =>
    obtain ⟨k, hk, rfl, HK⟩ := hrel
    have hsr := HK.out.only.size
    by_cases hlt : k < l0.length
    · have HBw := HB.out.trans (HK.out.only.below (B := w0.heap.size) (fun i hi => (HPT.out i hi).2) HB.out.size)
      obtain ⟨ad, A2, c2, A3, c3, e, x0, x1, x2, x3, l2, g2, l3, g3⟩ := at_T31 HR0.out (k : Int) (by omega) (by omega)
      subst e
      obtain ⟨hxB, hxN⟩ := HBD.out k hlt
      obtain ⟨⟨hf1, hf2⟩, hBb, hNb⟩ := vals_ok HG.out k hlt
      have hdr := allL_drop l0 k hlt
      have hlr : (allL (l0.drop k)).length ≤ 400000 := by
        have h1 := HLL.out l0.length (Nat.le_refl _)
        rw [List.take_length, allL_split l0 k, List.length_append] at h1
        omega
      simp only [Int.toNat_natCast] at x0 x1 x2 x3
      replace x0 := (HBw.cell (World.block_lt_of_cell? w0 _ x0)).trans x0
      replace x1 := (HBw.cell (World.block_lt_of_cell? w0 _ x1)).trans x1
      replace x2 := (HBw.cell (World.block_lt_of_cell? w0 _ x2)).trans x2
      replace x3 := (HBw.cell (World.block_lt_of_cell? w0 _ x3)).trans x3
      generalize rd_T31 l0 (k : Int) = X at *
      have G2 := Aside0.mk (Rk.of_C g2)
      have G3 := Aside0.mk (Rk.of_C g3)
      have HBW := Aside0.mk HBw
      clear HBw g2 g3
      by_cases h0 : X.f0 = 0
      · skip
        have HSP := Aside0.mk (show byteS (allL (l0.drop k)) false = (X.f1 % 256, allL (l0.drop (k + 1)), false) by rw [hdr, show valL X.f0 X.f1 X.f2 X.f3 = [X.f1 % 256] by unfold valL; rw [if_pos h0]]; exact byte_back _ _)
        rw [h0] at x0
        have hbw := below_drew (below_alloc (Below.refl wr.heap.size wr) (.cells #[.int .i64 0, .int .i64 X.f1, .slice A2 X.f2.length c2, .slice A3 X.f3.length c3] 31))
        have hq0 := heap_alloc_new wr (.cells #[.int .i64 0, .int .i64 X.f1, .slice A2 X.f2.length c2, .slice A3 X.f3.length c3] 31)
        have HQ0 := Aside0.mk (show (wr.alloc (.cells #[.int .i64 0, .int .i64 X.f1, .slice A2 X.f2.length c2, .slice A3 X.f3.length c3] 31)).drew.heap[wr.heap.size]? = some (.cells #[.int .i64 0, .int .i64 X.f1, .slice A2 X.f2.length c2, .slice A3 X.f3.length c3] 31 (0, 0)) from hq0)
        have HBW1 := Aside0.mk (HBW.out.trans (hbw.mono HBW.out.size))
        have HBX := Aside0.mk hbw
        clear hq0 hbw hdr
        go_wp2_with fail
        go_region_with ((go_at_call 36; refine (wire_Reader_Byte.calls S (.pointer (some ⟨p, 0, none⟩)) _ false _ (HK.out.rd.below HBX.out)).mono ?_; rintro e w6 ⟨rfl, hx⟩; rw [HSP.out] at hx ⊢; have HX6 := Aside0.mk hx; have hb6 := HX6.out.only.same_block HQ0.out (fun h => by have := (HPT.out _ h).1; omega); have e1 : w6.cell? ⟨wr.heap.size, 1, none⟩ = some (.int .i64 X.f1) := (by rw [cell_of hb6]; rfl); have e2 : w6.cell? ⟨wr.heap.size, 2, none⟩ = some (.slice A2 X.f2.length c2) := (by rw [cell_of hb6]; rfl); have e3 : w6.cell? ⟨wr.heap.size, 3, none⟩ = some (.slice A3 X.f3.length c3) := (by rw [cell_of hb6]; rfl); have HB6 := Aside0.mk (HBW1.out.trans (HX6.out.only.below (B := w0.heap.size) (fun i hi => (HPT.out i hi).2) HBW1.out.size)); clear hb6 hx))
        all_goals
          go_wp2
          exact ⟨⟨k + 1, by omega, by go_num, ⟨HK.out.then_ (HX6.out.late HBX.out)⟩⟩, by simp [intOf]; omega⟩
      by_cases h2 : X.f0 = 2
      · by_cases h1 : X.f1 = 1
        · skip
          have HSP := Aside0.mk (show flagS (allL (l0.drop k)) false = (true, allL (l0.drop (k + 1)), false) by rw [hdr, show valL X.f0 X.f1 X.f2 X.f3 = [if true = true then 1 else 0] by unfold valL; rw [if_neg h0, if_pos h2, if_pos h1, if_pos rfl]]; exact flag_back true _)
          rw [h2] at x0
          have hk1 : (X.f1 == 1) = true := by simp [h1]
          clear h1
          have hbw := below_drew (below_alloc (Below.refl wr.heap.size wr) (.cells #[.int .i64 2, .int .i64 X.f1, .slice A2 X.f2.length c2, .slice A3 X.f3.length c3] 31))
          have hq0 := heap_alloc_new wr (.cells #[.int .i64 2, .int .i64 X.f1, .slice A2 X.f2.length c2, .slice A3 X.f3.length c3] 31)
          have HQ0 := Aside0.mk (show (wr.alloc (.cells #[.int .i64 2, .int .i64 X.f1, .slice A2 X.f2.length c2, .slice A3 X.f3.length c3] 31)).drew.heap[wr.heap.size]? = some (.cells #[.int .i64 2, .int .i64 X.f1, .slice A2 X.f2.length c2, .slice A3 X.f3.length c3] 31 (0, 0)) from hq0)
          have HBW1 := Aside0.mk (HBW.out.trans (hbw.mono HBW.out.size))
          have HBX := Aside0.mk hbw
          clear hq0 hbw hdr
          go_wp2_with fail
          go_region_with ((go_at_call 23; refine (wire_Reader_Flag.calls S (.pointer (some ⟨p, 0, none⟩)) _ false _ (HK.out.rd.below HBX.out)).mono ?_; rintro e w6 ⟨rfl, hx⟩; rw [HSP.out] at hx ⊢; have HX6 := Aside0.mk hx; have hb6 := HX6.out.only.same_block HQ0.out (fun h => by have := (HPT.out _ h).1; omega); have e1 : w6.cell? ⟨wr.heap.size, 1, none⟩ = some (.int .i64 X.f1) := (by rw [cell_of hb6]; rfl); have e2 : w6.cell? ⟨wr.heap.size, 2, none⟩ = some (.slice A2 X.f2.length c2) := (by rw [cell_of hb6]; rfl); have e3 : w6.cell? ⟨wr.heap.size, 3, none⟩ = some (.slice A3 X.f3.length c3) := (by rw [cell_of hb6]; rfl); have HB6 := Aside0.mk (HBW1.out.trans (HX6.out.only.below (B := w0.heap.size) (fun i hi => (HPT.out i hi).2) HBW1.out.size)); clear hb6 hx))
          all_goals
            go_wp2
            exact ⟨⟨k + 1, by omega, by go_num, ⟨HK.out.then_ (HX6.out.late HBX.out)⟩⟩, by simp [intOf]; omega⟩
        · skip
          have HSP := Aside0.mk (show flagS (allL (l0.drop k)) false = (false, allL (l0.drop (k + 1)), false) by rw [hdr, show valL X.f0 X.f1 X.f2 X.f3 = [if false = true then 1 else 0] by unfold valL; rw [if_neg h0, if_pos h2, if_neg h1, if_neg (by decide)]]; exact flag_back false _)
          rw [h2] at x0
          have hk1 : (X.f1 == 1) = false := by rw [beq_eq_false_iff_ne]; exact h1
          have hbw := below_drew (below_alloc (Below.refl wr.heap.size wr) (.cells #[.int .i64 2, .int .i64 X.f1, .slice A2 X.f2.length c2, .slice A3 X.f3.length c3] 31))
          have hq0 := heap_alloc_new wr (.cells #[.int .i64 2, .int .i64 X.f1, .slice A2 X.f2.length c2, .slice A3 X.f3.length c3] 31)
          have HQ0 := Aside0.mk (show (wr.alloc (.cells #[.int .i64 2, .int .i64 X.f1, .slice A2 X.f2.length c2, .slice A3 X.f3.length c3] 31)).drew.heap[wr.heap.size]? = some (.cells #[.int .i64 2, .int .i64 X.f1, .slice A2 X.f2.length c2, .slice A3 X.f3.length c3] 31 (0, 0)) from hq0)
          have HBW1 := Aside0.mk (HBW.out.trans (hbw.mono HBW.out.size))
          have HBX := Aside0.mk hbw
          clear hq0 hbw hdr
          go_wp2_with fail
          go_region_with ((go_at_call 23; refine (wire_Reader_Flag.calls S (.pointer (some ⟨p, 0, none⟩)) _ false _ (HK.out.rd.below HBX.out)).mono ?_; rintro e w6 ⟨rfl, hx⟩; rw [HSP.out] at hx ⊢; have HX6 := Aside0.mk hx; have hb6 := HX6.out.only.same_block HQ0.out (fun h => by have := (HPT.out _ h).1; omega); have e1 : w6.cell? ⟨wr.heap.size, 1, none⟩ = some (.int .i64 X.f1) := (by rw [cell_of hb6]; rfl); have e2 : w6.cell? ⟨wr.heap.size, 2, none⟩ = some (.slice A2 X.f2.length c2) := (by rw [cell_of hb6]; rfl); have e3 : w6.cell? ⟨wr.heap.size, 3, none⟩ = some (.slice A3 X.f3.length c3) := (by rw [cell_of hb6]; rfl); have HB6 := Aside0.mk (HBW1.out.trans (HX6.out.only.below (B := w0.heap.size) (fun i hi => (HPT.out i hi).2) HBW1.out.size)); clear hb6 hx))
          all_goals
            go_wp2
            exact ⟨⟨k + 1, by omega, by go_num, ⟨HK.out.then_ (HX6.out.late HBX.out)⟩⟩, by simp [intOf]; omega⟩
      by_cases h3 : X.f0 = 3
      · skip
        have HSP := Aside0.mk (show bytesS (allL (l0.drop k)) false = (X.f2, allL (l0.drop (k + 1)), false) by rw [hdr, show valL X.f0 X.f1 X.f2 X.f3 = numL X.f2.length ++ X.f2 by unfold valL; rw [if_neg h0, if_neg h2, if_pos h3]]; exact bytes_back _ _ (by omega))
        rw [h3] at x0
        have hbw := below_drew (below_alloc (Below.refl wr.heap.size wr) (.cells #[.int .i64 3, .int .i64 X.f1, .slice A2 X.f2.length c2, .slice A3 X.f3.length c3] 31))
        have hq0 := heap_alloc_new wr (.cells #[.int .i64 3, .int .i64 X.f1, .slice A2 X.f2.length c2, .slice A3 X.f3.length c3] 31)
        have HQ0 := Aside0.mk (show (wr.alloc (.cells #[.int .i64 3, .int .i64 X.f1, .slice A2 X.f2.length c2, .slice A3 X.f3.length c3] 31)).drew.heap[wr.heap.size]? = some (.cells #[.int .i64 3, .int .i64 X.f1, .slice A2 X.f2.length c2, .slice A3 X.f3.length c3] 31 (0, 0)) from hq0)
        have HBW1 := Aside0.mk (HBW.out.trans (hbw.mono HBW.out.size))
        have HBX := Aside0.mk hbw
        clear hq0 hbw hdr
        go_wp2_with fail
        go_region_with (first | (go_at_call 22; refine (wire_Reader_Bytes.calls S (.pointer (some ⟨p, 0, none⟩)) _ false _ (HK.out.rd.below HBX.out)).mono ?_; rintro e w6 ⟨A6, c6, rfl, hc6, hx⟩; rw [HSP.out] at hx hc6 ⊢; have HX6 := Aside0.mk hx.rdto; have hb6 := HX6.out.only.same_block HQ0.out (fun h => by have := (HPT.out _ h).1; omega); have e1 : w6.cell? ⟨wr.heap.size, 1, none⟩ = some (.int .i64 X.f1) := (by rw [cell_of hb6]; rfl); have e2 : w6.cell? ⟨wr.heap.size, 2, none⟩ = some (.slice A2 X.f2.length c2) := (by rw [cell_of hb6]; rfl); have e3 : w6.cell? ⟨wr.heap.size, 3, none⟩ = some (.slice A3 X.f3.length c3) := (by rw [cell_of hb6]; rfl); have HB6 := Aside0.mk (HBW1.out.trans (HX6.out.only.below (B := w0.heap.size) (fun i hi => (HPT.out i hi).2) HBW1.out.size)); have HRW := Aside0.mk hx.row.row; clear hb6 hx) | (go_at_call 16; refine (laminanum_Same.calls A6 c6 X.f2 A2 c2 X.f2 true w6 HRW.out hc6 (G2.out.old HB6.out).row l2 (same_refl _)).mono ?_; rintro e w7 ⟨rfl, ⟨n7, rfl⟩⟩))
        all_goals
          go_wp2
          exact ⟨⟨k + 1, by omega, by go_num, ⟨HK.out.then_ ((HX6.out.late HBX.out).below (pw_below_drewN (Below.refl _ _) _))⟩⟩, by simp [intOf]; omega⟩
      by_cases h4 : X.f0 = 4
      · skip
        have HSP := Aside0.mk (show bytesS (allL (l0.drop k)) false = (X.f2, allL (l0.drop (k + 1)), false) by rw [hdr, show valL X.f0 X.f1 X.f2 X.f3 = numL X.f2.length ++ X.f2 by unfold valL; rw [if_neg h0, if_neg h2, if_neg h3, if_pos h4]]; exact bytes_back _ _ (by omega))
        rw [h4] at x0
        have hbw := below_drew (below_alloc (Below.refl wr.heap.size wr) (.cells #[.int .i64 4, .int .i64 X.f1, .slice A2 X.f2.length c2, .slice A3 X.f3.length c3] 31))
        have hq0 := heap_alloc_new wr (.cells #[.int .i64 4, .int .i64 X.f1, .slice A2 X.f2.length c2, .slice A3 X.f3.length c3] 31)
        have HQ0 := Aside0.mk (show (wr.alloc (.cells #[.int .i64 4, .int .i64 X.f1, .slice A2 X.f2.length c2, .slice A3 X.f3.length c3] 31)).drew.heap[wr.heap.size]? = some (.cells #[.int .i64 4, .int .i64 X.f1, .slice A2 X.f2.length c2, .slice A3 X.f3.length c3] 31 (0, 0)) from hq0)
        have HBW1 := Aside0.mk (HBW.out.trans (hbw.mono HBW.out.size))
        have HBX := Aside0.mk hbw
        clear hq0 hbw hdr
        have hcvb := Kd.C_string (P := Try.prog) (A := A2) (c := c2) Try.underlying26 Try.underlying5 Try.underlying9 (G2.out.old HBW1.out).row
        go_wp2_with fail
        go_region_with ((go_at_call 40; refine (wire_Reader_Text.calls S (.pointer (some ⟨p, 0, none⟩)) _ false _ (HK.out.rd.below HBX.out)).mono ?_; rintro e w6 ⟨rfl, hx⟩; rw [HSP.out] at hx ⊢; have HX6 := Aside0.mk hx; have hb6 := HX6.out.only.same_block HQ0.out (fun h => by have := (HPT.out _ h).1; omega); have e1 : w6.cell? ⟨wr.heap.size, 1, none⟩ = some (.int .i64 X.f1) := (by rw [cell_of hb6]; rfl); have e2 : w6.cell? ⟨wr.heap.size, 2, none⟩ = some (.slice A2 X.f2.length c2) := (by rw [cell_of hb6]; rfl); have e3 : w6.cell? ⟨wr.heap.size, 3, none⟩ = some (.slice A3 X.f3.length c3) := (by rw [cell_of hb6]; rfl); have HB6 := Aside0.mk (HBW1.out.trans (HX6.out.only.below (B := w0.heap.size) (fun i hi => (HPT.out i hi).2) HBW1.out.size)); have hcva := Kd.C_string (P := Try.prog) (A := A2) (c := c2) Try.underlying26 Try.underlying5 Try.underlying9 (G2.out.old HB6.out).row; clear hb6 hx))
        all_goals
          go_wp2
          exact ⟨⟨k + 1, by omega, by go_num, ⟨HK.out.then_ (HX6.out.late HBX.out)⟩⟩, by simp [intOf]; omega⟩
      by_cases h5 : X.f0 = 5
      · skip
        have HSP := Aside0.mk (show numsS (allL (l0.drop k)) false = (X.f3, allL (l0.drop (k + 1)), false) by rw [hdr, show valL X.f0 X.f1 X.f2 X.f3 = numL X.f3.length ++ numsL X.f3 by unfold valL; rw [if_neg h0, if_neg h2, if_neg h3, if_neg h4, if_pos h5]]; exact nums_back _ _ hNb (by omega))
        rw [h5] at x0
        have hbw := below_drew (below_alloc (Below.refl wr.heap.size wr) (.cells #[.int .i64 5, .int .i64 X.f1, .slice A2 X.f2.length c2, .slice A3 X.f3.length c3] 31))
        have hq0 := heap_alloc_new wr (.cells #[.int .i64 5, .int .i64 X.f1, .slice A2 X.f2.length c2, .slice A3 X.f3.length c3] 31)
        have HQ0 := Aside0.mk (show (wr.alloc (.cells #[.int .i64 5, .int .i64 X.f1, .slice A2 X.f2.length c2, .slice A3 X.f3.length c3] 31)).drew.heap[wr.heap.size]? = some (.cells #[.int .i64 5, .int .i64 X.f1, .slice A2 X.f2.length c2, .slice A3 X.f3.length c3] 31 (0, 0)) from hq0)
        have HBW1 := Aside0.mk (HBW.out.trans (hbw.mono HBW.out.size))
        have HBX := Aside0.mk hbw
        clear hq0 hbw hdr
        have hSz : ∀ i, S i → i < (wr.alloc (.cells #[.int .i64 5, .int .i64 X.f1, .slice A2 X.f2.length c2, .slice A3 X.f3.length c3] 31)).drew.heap.size := fun i hi => by have := HS.out i hi; have := HBX.out.size; omega
        have HSZ := Aside0.mk hSz
        clear hSz
        go_wp2_with fail
        go_region_with (first | (go_at_call 41; refine (wire_Reader_Nums.calls S (.pointer (some ⟨p, 0, none⟩)) _ false _ (HK.out.rd.below HBX.out) HSZ.out (by omega)).mono ?_; rintro e w6 ⟨v6, rfl, ho6, hx⟩; rw [HSP.out] at hx ho6; have HX6 := Aside0.mk hx; have hb6 := HX6.out.only.same_block HQ0.out (fun h => by have := (HPT.out _ h).1; omega); have e1 : w6.cell? ⟨wr.heap.size, 1, none⟩ = some (.int .i64 X.f1) := (by rw [cell_of hb6]; rfl); have e2 : w6.cell? ⟨wr.heap.size, 2, none⟩ = some (.slice A2 X.f2.length c2) := (by rw [cell_of hb6]; rfl); have e3 : w6.cell? ⟨wr.heap.size, 3, none⟩ = some (.slice A3 X.f3.length c3) := (by rw [cell_of hb6]; rfl); have HB6 := Aside0.mk (HBW1.out.trans (HX6.out.only.below (B := w0.heap.size) (fun i hi => (HPT.out i hi).2) HBW1.out.size)); obtain ⟨A6, c6, rfl, -⟩ := Kd.R_reads ho6; have HRW := Aside0.mk (Kd.R_reads' ho6).2.2; have hc6 := (Kd.R_reads' ho6).2.1; clear hb6 hx ho6) | (go_at_call 13; refine (laminanum_Ints.calls 400 A6 c6 X.f3 A3 c3 X.f3 true w6 HRW.out hc6 (G3.out.old HB6.out).row l3 (ints_refl X.f3 (by omega) 400 (by omega))).mono ?_; rintro e w7 ⟨rfl, ⟨n7, rfl⟩⟩))
        all_goals
          go_wp2
          exact ⟨⟨k + 1, by omega, by go_num, ⟨HK.out.then_ ((HX6.out.late HBX.out).below (pw_below_drewN (Below.refl _ _) _))⟩⟩, by simp [intOf]; omega⟩
      have k0 : (X.f0 == 0) = false := by rw [beq_eq_false_iff_ne]; omega
      have k2 : (X.f0 == 2) = false := by rw [beq_eq_false_iff_ne]; omega
      have k3 : (X.f0 == 3) = false := by rw [beq_eq_false_iff_ne]; omega
      have k4 : (X.f0 == 4) = false := by rw [beq_eq_false_iff_ne]; omega
      have k5 : (X.f0 == 5) = false := by rw [beq_eq_false_iff_ne]; omega
      have HSP := Aside0.mk (show numS (allL (l0.drop k)) false = (X.f1, allL (l0.drop (k + 1)), false) by rw [hdr, show valL X.f0 X.f1 X.f2 X.f3 = numL X.f1 by unfold valL; rw [if_neg h0, if_neg h2, if_neg h3, if_neg h4, if_neg h5]]; exact num_back _ _ hf1 hf2)
      have hbw := below_drew (below_alloc (Below.refl wr.heap.size wr) (.cells #[.int .i64 X.f0, .int .i64 X.f1, .slice A2 X.f2.length c2, .slice A3 X.f3.length c3] 31))
      have hq0 := heap_alloc_new wr (.cells #[.int .i64 X.f0, .int .i64 X.f1, .slice A2 X.f2.length c2, .slice A3 X.f3.length c3] 31)
      have HQ0 := Aside0.mk (show (wr.alloc (.cells #[.int .i64 X.f0, .int .i64 X.f1, .slice A2 X.f2.length c2, .slice A3 X.f3.length c3] 31)).drew.heap[wr.heap.size]? = some (.cells #[.int .i64 X.f0, .int .i64 X.f1, .slice A2 X.f2.length c2, .slice A3 X.f3.length c3] 31 (0, 0)) from hq0)
      have HBW1 := Aside0.mk (HBW.out.trans (hbw.mono HBW.out.size))
      have HBX := Aside0.mk hbw
      clear hq0 hbw hdr
      go_wp2_with fail
      go_region_with ((go_at_call 24; refine (wire_Reader_Num.calls S (.pointer (some ⟨p, 0, none⟩)) _ false _ (HK.out.rd.below HBX.out)).mono ?_; rintro e w6 ⟨rfl, hx⟩; rw [HSP.out] at hx ⊢; have HX6 := Aside0.mk hx; have hb6 := HX6.out.only.same_block HQ0.out (fun h => by have := (HPT.out _ h).1; omega); have e1 : w6.cell? ⟨wr.heap.size, 1, none⟩ = some (.int .i64 X.f1) := (by rw [cell_of hb6]; rfl); have e2 : w6.cell? ⟨wr.heap.size, 2, none⟩ = some (.slice A2 X.f2.length c2) := (by rw [cell_of hb6]; rfl); have e3 : w6.cell? ⟨wr.heap.size, 3, none⟩ = some (.slice A3 X.f3.length c3) := (by rw [cell_of hb6]; rfl); have HB6 := Aside0.mk (HBW1.out.trans (HX6.out.only.below (B := w0.heap.size) (fun i hi => (HPT.out i hi).2) HBW1.out.size)); clear hb6 hx))
      all_goals
        go_wp2
        exact ⟨⟨k + 1, by omega, by go_num, ⟨HK.out.then_ (HX6.out.late HBX.out)⟩⟩, by simp [intOf]; omega⟩
    · obtain rfl : k = l0.length := by omega
      go_wp2
      go_ret
      have := HK.out
      rw [List.drop_length] at this
      exact ⟨rfl, this⟩

end Go.Proofs.Ytibpbihcbgcedaa.Hp
