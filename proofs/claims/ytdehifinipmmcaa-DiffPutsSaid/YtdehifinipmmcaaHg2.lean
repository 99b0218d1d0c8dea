/- Contracts of functions of the given program, and what they lean on: written by this session's own program, out of hand texts laid into the kit's printer. -/
import Derived.Deep.RegionWith
import Derived.Deep.DeepMust
import Derived.Test.YtdehifinipmmcaaHp0
import Derived.Test.YtdehifinipmmcaaHg1
namespace Go.Proofs.Ytdehifinipmmcaa.Hp
open Go.RowKit Go.Proofs.YtdehifinipmmcaaW.PrintWords Go.Proofs.YtdehifinipmmcaaW.PrintLast Go.Proofs.YtdehifinipmmcaaW.PrintMore
attribute [local go_sem] max2_int min2_int max_two min_two max_three min_three max_four min_four   -- for this text's walks alone
set_option linter.unusedVariables false
set_option linter.unusedSimpArgs false

/-! ### stripe_Pieces: function 58 -/
def szB (n o : Int) : Bool := decide (0 ≤ n ∧ n ≤ 4096 ∧ (o = 16 ∨ o = 32 ∨ o = 64 ∨ o = 128 ∨ o = 256))
theorem pow_two : ∀ m : Fin 257, 16 ≤ m.val → ((Go.bits .and .i64 (m.val : Int) (wrap64 ((m.val : Int) - 1)) == 0) = decide (m.val = 16 ∨ m.val = 32 ∨ m.val = 64 ∨ m.val = 128 ∨ m.val = 256)) := by decide +kernel
theorem sound_f (n o : Int) : stripe_sound.f n o = some (szB n o) := by
  unfold stripe_sound.f szB
  by_cases h1 : n ≥ 0
  · by_cases h2 : n ≤ 4096
    · by_cases h3 : o ≥ 16
      · by_cases h4 : o ≤ 256
        · obtain ⟨m, rfl⟩ := Int.eq_ofNat_of_zero_le (show 0 ≤ o by omega)
          have := pow_two ⟨m, by omega⟩ (by simp; omega)
          simp only at this
          rw [if_pos h1, if_pos h2, if_pos h3, if_pos h4, this]
          congr 1
          rw [decide_eq_decide]
          omega
        · rw [if_pos h1, if_pos h2, if_pos h3, if_neg h4]; congr 1; symm; rw [decide_eq_false_iff_not]; omega
      · rw [if_pos h1, if_pos h2, if_neg h3]; congr 1; symm; rw [decide_eq_false_iff_not]; omega
    · rw [if_pos h1, if_neg h2]; congr 1; symm; rw [decide_eq_false_iff_not]; omega
  · rw [if_neg h1]; congr 1; symm; rw [decide_eq_false_iff_not]; omega
def pcAt (n o i : Nat) : S94 := ⟨i, 0, (min o (n - i * o) : Nat), (i * o : Nat)⟩
def pcN (n o : Nat) : Nat := (n + o - 1) / o
def pcL (n o : Nat) : List S94 := (List.range (pcN n o)).map (pcAt n o)
theorem pcL_len (n o : Nat) : (pcL n o).length = pcN n o := by simp [pcL]
theorem pcL_at (n o k : Nat) (h : k < pcN n o) : rd_T94 (pcL n o) k = pcAt n o k := by simp [rd_T94, pcL, h]
theorem pcN_lt (n o k : Nat) (ho : o = 16 ∨ o = 32 ∨ o = 64 ∨ o = 128 ∨ o = 256) (h : k < pcN n o) : k * o < n := by
  unfold pcN at h
  rcases ho with rfl | rfl | rfl | rfl | rfl <;> omega
theorem pcN_le (n o : Nat) (hn : n ≤ 4096) (ho : o = 16 ∨ o = 32 ∨ o = 64 ∨ o = 128 ∨ o = 256) : pcN n o ≤ 256 := by
  unfold pcN
  rcases ho with rfl | rfl | rfl | rfl | rfl <;> omega
theorem pcL_take (n o i : Nat) (h : i < pcN n o) : (pcL n o).take (i + 1) = (pcL n o).take i ++ [pcAt n o i] := by
  rw [List.take_succ_eq_append_getElem (by rw [pcL_len]; exact h)]
  simp [pcL]
set_option maxHeartbeats 4000000 in
set_option maxRecDepth 100000 in
theorem stripe_Pieces.bad (n o : Int) (hn : -9223372036854775808 ≤ n ∧ n ≤ 9223372036854775807) (h : szB n o = false) (w : World) :
    Calls Try.prog 58 #[.int .i64 n, .int .i64 o, .int .i64 0, .int .i64 n] w fun e w' => e = .returned (.tuple #[.slice none 0 0, errW (some 1)]) ∧ Drawn0 w w' := by
  have hu27 := Try.underlying30
  have hu33 := Try.underlying39
  have HS := fun W => stripe_sound.calls n o false W (by rw [sound_f, h])
  clear h
  go_enter Try.func58, Try.ntmps58
  go_wp2_with fail
  refine (HS _).mono ?_
  rintro e w1 ⟨rfl, ⟨n2, rfl⟩⟩
  go_wp2
  go_ret2
  exact ⟨by simp [errW_some], ⟨_, rfl⟩⟩
set_option maxHeartbeats 8000000 in
set_option maxRecDepth 100000 in
theorem stripe_Pieces.good (n o : Nat) (hn : n ≤ 4096) (ho : o = 16 ∨ o = 32 ∨ o = 64 ∨ o = 128 ∨ o = 256) (w : World) :
    Calls Try.prog 58 #[.int .i64 (n : Int), .int .i64 (o : Int), .int .i64 0, .int .i64 (n : Int)] w fun e w' => ∃ v : Value, e = .returned (.tuple #[v, errW none]) ∧ Kd.R k94 94 w' w.heap.size (fun _ => True) v (pcL n o) ∧ Below w.heap.size w w' := by
  have HS := fun W => stripe_sound.calls n o true W (by rw [sound_f]; congr 1; unfold szB; rw [decide_eq_true_eq]; omega)
  have q0 : IntKind.i64.wrap ((n : Int) - n) = 0 := by rw [IntWalk.i64_in _ (by omega)]; omega
  have hN := pcN_le n o hn ho
  have HO0 := Aside0.mk ho
  have ho1 : ¬ (o : Int) = 0 := by omega
  have ho2 : o ≤ 256 := by omega
  clear ho
  go_enter Try.func58, Try.ntmps58
  go_wp2_with fail
  refine (HS _).mono ?_
  rintro e w1 ⟨rfl, ⟨n2, rfl⟩⟩
  go_wp2
  clear q0 HS
  go_loopw [10, 11] (fun v10 v11 wr => ∃ i : Nat, i ≤ pcN n o ∧ v11 = .int .i64 (min (i * o) n : Nat) ∧ Aside0 (Kd.R k94 94 wr w.heap.size (fun _ => True) v10 ((pcL n o).take i)) ∧ Aside0 (Below w.heap.size w wr)) (fun _ v11 _ => n - (intOf v11).toNat)
  case atStart => exact ⟨0, by omega, by simp, ⟨Kd.R_nil _ _ _ _ _⟩, ⟨pw_below_drewN (Below.refl _ _) _⟩⟩
  case round =>
    obtain ⟨i, hi, rfl, HO, HB⟩ := hrel
    by_cases hlt : i < pcN n o
    · have h1 := pcN_lt n o i HO0.out hlt
      have HT := Aside0.mk (pcL_take n o i hlt)
      have e2 : Int.tmod ((i * o : Nat) : Int) (o : Int) = 0 := by rw [Int.natCast_mul]; exact Int.mul_tmod_left _ _
      have e3 : Int.tdiv ((i * o : Nat) : Int) (o : Int) = i := by rw [Int.natCast_mul]; exact Int.mul_tdiv_cancel _ (by omega)
      have HNX := Aside0.mk (show min ((i + 1) * o) n = i * o + min o (n - i * o) by rw [Nat.add_mul]; omega)
      have HPC := Aside0.mk (show pcAt n o i = ⟨i, 0, (min o (n - i * o) : Nat), (i * o : Nat)⟩ from rfl)
      have e0 : min (i * o) n = i * o := by omega
      rw [e0]
      have hLEN := Aside0.mk (show ((((pcL n o).take i).length + 1) * 32 ≤ 140737488355328) by rw [List.length_take, pcL_len]; omega)
      clear e0
      generalize i * o = a at *
      have e1 : IntKind.i64.wrap (a : Int) = a := IntWalk.i64_in _ (by omega)
      have e4 : IntKind.i64.wrap (i : Int) = i := IntWalk.i64_in _ (by omega)
      have e5 : IntKind.i64.wrap (o : Int) = o := IntWalk.i64_in _ (by omega)
      obtain ⟨b, hb⟩ : ∃ b, n - a = b := ⟨_, rfl⟩
      rw [hb] at HNX HPC
      have e6 : IntKind.i64.wrap ((n : Int) - (a : Int)) = (b : Int) := by rw [IntWalk.i64_in _ (by omega)]; omega
      have h2 : (a : Int) < n := by omega
      have hob : ¬ (o : Int) = 0 := ho1
      rcases Nat.lt_or_ge b o with hbo | hbo
      · have h3 : (b : Int) < o := by omega
        rw [show min o b = b by omega] at HNX HPC
        have e8 : IntKind.i64.wrap ((a : Int) + (b : Int)) = ((a + b : Nat) : Int) := by rw [IntWalk.i64_in _ (by omega)]; omega
        go_wp2
        go_region_with fail
        all_goals (go_wp2_with (first | ((with_reducible refine gate_builtin (b := .append) (xs := #[.tmp 62, .tmp 64]) rfl ?_); at_builtin; rw [show ((wr.alloc (Obj.cells #[.int .i64 (i : Int), .int .i64 0, .int .i64 (b : Int), .int .i64 (a : Int)] 94)).alloc (Obj.cells #[.int .i64 (i : Int), .int .i64 0, .int .i64 (b : Int), .int .i64 (a : Int)] 94)).drew = (wr.drew.alloc (Obj.cells #[.int .i64 (i : Int), .int .i64 0, .int .i64 (b : Int), .int .i64 (a : Int)] 94)).alloc (Obj.cells #[.int .i64 (i : Int), .int .i64 0, .int .i64 (b : Int), .int .i64 (a : Int)] 94) from rfl]; go_must (refine Kd.R_append k94 (w0 := w) w.heap.size rfl (.tmp 62) (.tmp 64) 90 94 (.agg #[.int .i64 0, .int .i64 0, .int .i64 0, .int .i64 0]) 32 rfl Try.underlying90 info94 rfl (by decide) (by omega) u10 ((pcL n o).take i) (pcAt n o i) [.int .i64 i, .int .i64 0, .int .i64 b, .int .i64 a] (fun _ => True) (fun _ => False) rfl ?hx ?aP (fun k_ hk_ => hk_.elim) (fun _ _ => trivial) ?aO ?aB ?aS hLEN.out ?_); (case hx => show Value.slice (some ⟨wr.heap.size + 1, 0, none⟩) 1 1 = _; simp); (case aP => rw [HPC.out]; exact k94_mkM _ _ _ _); (case aO => exact Kd.R_alloc (Kd.R_drew HO.out) _); (case aB => exact below_alloc (below_drew HB.out) _); (case aS => exact (below_alloc (below_drew HB.out) _).size); intro v65 w65 ho hb hg hat; have hz65 : w65.cell? ⟨wr.heap.size, 2, none⟩ = some (.int .i64 (b : Int)) := (blk_cell (blk_grown (g := wr.heap.size) (blk_new wr.drew _) hg (fun e => absurd (Kd.R_lt HO.out _ e.symm) (Nat.lt_irrefl _))) 2).trans rfl; have HO65 := Aside0.mk ho; have HB65 := Aside0.mk hb; clear ho hb hg hat)))
        all_goals (
          refine ⟨⟨i + 1, by omega, by rw [HNX.out]; simp, ⟨by rw [HT.out]; exact HO65.out⟩, HB65⟩, ?_⟩
          simp only [intOf]
          omega)
      · have h3 : ¬ (b : Int) < o := by omega
        rw [show min o b = o by omega] at HNX HPC
        have e8 : IntKind.i64.wrap ((a : Int) + (o : Int)) = ((a + o : Nat) : Int) := by rw [IntWalk.i64_in _ (by omega)]; omega
        go_wp2
        go_region_with fail
        all_goals (go_wp2_with (first | ((with_reducible refine gate_builtin (b := .append) (xs := #[.tmp 62, .tmp 64]) rfl ?_); at_builtin; rw [show ((wr.alloc (Obj.cells #[.int .i64 (i : Int), .int .i64 0, .int .i64 (o : Int), .int .i64 (a : Int)] 94)).alloc (Obj.cells #[.int .i64 (i : Int), .int .i64 0, .int .i64 (o : Int), .int .i64 (a : Int)] 94)).drew = (wr.drew.alloc (Obj.cells #[.int .i64 (i : Int), .int .i64 0, .int .i64 (o : Int), .int .i64 (a : Int)] 94)).alloc (Obj.cells #[.int .i64 (i : Int), .int .i64 0, .int .i64 (o : Int), .int .i64 (a : Int)] 94) from rfl]; go_must (refine Kd.R_append k94 (w0 := w) w.heap.size rfl (.tmp 62) (.tmp 64) 90 94 (.agg #[.int .i64 0, .int .i64 0, .int .i64 0, .int .i64 0]) 32 rfl Try.underlying90 info94 rfl (by decide) (by omega) u10 ((pcL n o).take i) (pcAt n o i) [.int .i64 i, .int .i64 0, .int .i64 o, .int .i64 a] (fun _ => True) (fun _ => False) rfl ?hx ?aP (fun k_ hk_ => hk_.elim) (fun _ _ => trivial) ?aO ?aB ?aS hLEN.out ?_); (case hx => show Value.slice (some ⟨wr.heap.size + 1, 0, none⟩) 1 1 = _; simp); (case aP => rw [HPC.out]; exact k94_mkM _ _ _ _); (case aO => exact Kd.R_alloc (Kd.R_drew HO.out) _); (case aB => exact below_alloc (below_drew HB.out) _); (case aS => exact (below_alloc (below_drew HB.out) _).size); intro v65 w65 ho hb hg hat; have hz65 : w65.cell? ⟨wr.heap.size, 2, none⟩ = some (.int .i64 (o : Int)) := (blk_cell (blk_grown (g := wr.heap.size) (blk_new wr.drew _) hg (fun e => absurd (Kd.R_lt HO.out _ e.symm) (Nat.lt_irrefl _))) 2).trans rfl; have HO65 := Aside0.mk ho; have HB65 := Aside0.mk hb; clear ho hb hg hat)))
        all_goals (
          refine ⟨⟨i + 1, by omega, by rw [HNX.out]; simp, ⟨by rw [HT.out]; exact HO65.out⟩, HB65⟩, ?_⟩
          simp only [intOf]
          omega)
    · obtain rfl : i = pcN n o := by omega
      have e0 : min (pcN n o * o) n = n := by
        have := HO0.out
        have h3 : n ≤ pcN n o * o := by unfold pcN; rcases this with rfl | rfl | rfl | rfl | rfl <;> omega
        omega
      rw [e0]
      go_wp2
      go_ret2
      exact ⟨_, rfl, by have := HO.out; rwa [List.take_of_length_le (by rw [pcL_len]; exact Nat.le_refl _)] at this, HB.out⟩

end Go.Proofs.Ytdehifinipmmcaa.Hp
