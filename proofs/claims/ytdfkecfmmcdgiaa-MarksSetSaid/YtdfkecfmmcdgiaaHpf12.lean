/- Contracts of functions of the given program, and what they lean on: written by this session's own program hprint.py, which lays hand texts into the kit's printer. -/
import Derived.Test.YtdfkecfmmcdgiaaHp0
import Derived.Test.YtdfkecfmmcdgiaaHpf35
namespace Go.Proofs.Ytdfkecfmmcdgiaa.Hp
open Go.RowKit Go.Proofs.YtdfkecfmmcdgiaaW.PrintWords Go.Proofs.YtdfkecfmmcdgiaaW.PrintLast Go.Proofs.YtdfkecfmmcdgiaaW.PrintMore
attribute [local go_sem] max2_int min2_int max_two min_two max_three min_three max_four min_four   -- for this text's walks alone
set_option linter.unusedVariables false
set_option linter.unusedSimpArgs false

/-! ### marks_Marks_Sized: function 12 -/
def szL (l0 : List Int) (n : Nat) : List Int := l0.take (min l0.length n) ++ (List.replicate n 0).drop (min l0.length n)
def marks_Marks_Sized.f (l0 : List Int) (a1 : Int) : Option (List Int × Option Int) := some (if 0 ≤ a1 ∧ a1 ≤ 256 then (szL l0 a1.toNat, none) else ([], some 1))
theorem marks_Marks_Sized.calls (A0 : Option Addr) (c0 : Nat) (l0 : List Int) (a1 : Int) (r1 : List Int) (r2 : Option Int) (w : World) (hr0 : Kd.C (Kd.int .u8) w A0 l0.length l0) (hc0 : l0.length ≤ c0) (h : marks_Marks_Sized.f l0 a1 = some (r1, r2)) :
    Calls Try.prog 12 #[.slice A0 l0.length c0, .int .i64 a1] w fun e w' => ∃ v0_ : Value, e = .returned (.tuple #[v0_, errW r2]) ∧ Kd.R (Kd.int .u8) 5 w' w.heap.size (fun _ => True) v0_ r1 ∧ Below w.heap.size w w' := by
  have hu27 := Try.underlying27
  have hu33 := Try.underlying33
  unfold marks_Marks_Sized.f at h
  have hsz : (Try.prog.info? 5).map (·.size) = some 1 := by
    obtain ⟨i, hi, hz⟩ := Option.map_eq_some_iff.1 info5
    simp only [Prod.mk.injEq] at hz
    rw [hi, Option.map_some, hz.2.1]
  have HR := Aside0.mk hr0
  clear hr0
  by_cases hs : 0 ≤ a1 ∧ a1 ≤ 256
  · rw [if_pos hs] at h
    obtain ⟨rfl, rfl⟩ := Prod.mk.inj (Option.some.inj h)
    have HS := fun W => marks_sound.calls a1 true W (by unfold marks_sound.f; rw [if_pos (by omega)]; simp; omega)
    obtain ⟨n, rfl⟩ := Int.eq_ofNat_of_zero_le hs.1
    clear h
    go_enter Try.func12, Try.ntmps12
    go_wp2_with fail
    refine (HS _).mono ?_
    rintro e w1 ⟨rfl, ⟨n2, rfl⟩⟩
    go_wp2_with (first | ((with_reducible refine gate_dst (N := 12) rfl ?_); (try (refine gate_guard (by rfl) ?_; dsimp only)); refine Kd.R_make (Kd.int .u8) (w0 := w) w.heap.size 5 rfl (N := 12) rfl 25 _ _ rfl (n : Int) rfl rfl Try.underlying25 (.int .u8 0) 1 info5 rfl (by decide) (by omega) 0 (ok := fun _ => True) (okp := fun _ => True) rfl (fun _ hk => hk) trivial (by omega) (by omega) (pw_below_drewN (Below.refl _ _) _) (Nat.le_refl _) ?_; intro v2 w2 ho hb hg hnew; clear hg hnew; rw [Int.toNat_natCast] at ho; have HO := Aside0.mk ho; have HB := Aside0.mk hb; clear ho hb) | ((with_reducible refine gate_builtin (b := .copy) (xs := #[.tmp 13, .tmp 14]) rfl ?_); refine Kd.R_copy (enc := Value.int .u8) (h1 := fun _ => rfl) 0 (w0 := w) w.heap.size rfl (.tmp 13) (.tmp 14) 25 25 5 rfl Try.underlying25 hsz v2 (List.replicate n 0) l0 A0 l0.length c0 (fun _ => True) rfl rfl HO.out (Kd.C_below HR.out HB.out) HB.out HB.out.size ?_; intro w3 ho hb hg; clear hg; rw [List.length_replicate] at ho; have HO3 := Aside0.mk ho; have HB3 := Aside0.mk hb; clear ho hb))
    go_wp2
    go_ret2
    exact ⟨_, rfl, HO3.out, HB3.out⟩
  · rw [if_neg hs] at h
    obtain ⟨rfl, rfl⟩ := Prod.mk.inj (Option.some.inj h)
    have HS := fun W => marks_sound.calls a1 false W (by
      unfold marks_sound.f
      by_cases h0 : a1 ≥ 0
      · rw [if_pos h0]; simp; omega
      · rw [if_neg h0])
    clear h hs
    go_enter Try.func12, Try.ntmps12
    go_wp2_with fail
    refine (HS _).mono ?_
    rintro e w1 ⟨rfl, ⟨n2, rfl⟩⟩
    go_wp2
    go_ret2
    exact ⟨_, rfl, Kd.R_nil _ _ _ _ _, pw_below_drewN (Below.refl _ _) _⟩

end Go.Proofs.Ytdfkecfmmcdgiaa.Hp
