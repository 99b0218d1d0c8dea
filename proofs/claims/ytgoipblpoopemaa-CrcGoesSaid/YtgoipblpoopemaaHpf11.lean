/- Contracts of functions of the given program, and what they lean on: written by this session's own program hprint.py, which lays hand texts into the kit's printer. -/
import Derived.Test.YtgoipblpoopemaaHp0
import Derived.Test.YtgoipblpoopemaaHpaC
import Derived.Test.YtgoipblpoopemaaHpf12
namespace Go.Proofs.Ytgoipblpoopemaa.Hp
open Go.RowKit Go.Proofs.YtgoipblpoopemaaW.PrintWords Go.Proofs.YtgoipblpoopemaaW.PrintLast Go.Proofs.YtgoipblpoopemaaW.PrintMore
attribute [local go_sem] max2_int min2_int max_two min_two max_three min_three max_four min_four   -- for this text's walks alone
set_option linter.unusedVariables false
set_option linter.unusedSimpArgs false

/-! ### crc_Sum: function 11 -/
/-- The sum of parts. -/
def sumI (ls : List (List Int)) : Int := ls.foldl goI 0
def crc_Sum.f (l0 : List (List Int)) : Option Int := if ∀ l ∈ l0, ∀ x ∈ l, 0 ≤ x ∧ x < 256 then some (sumI l0) else none
theorem goI_bd (a : Int) (l : List Int) (h : 0 ≤ a) (h1 : a < 4294967296) (hl : ∀ x ∈ l, 0 ≤ x ∧ x < 256) : 0 ≤ goI a l ∧ goI a l < 4294967296 := by
  obtain ⟨p, q⟩ := inv_bd a h h1
  obtain ⟨p, q⟩ := fold_bd l _ p q hl
  exact inv_bd _ p q
theorem sumI_bd (ls : List (List Int)) : ∀ (a : Int), 0 ≤ a → a < 4294967296 → (∀ l ∈ ls, ∀ x ∈ l, 0 ≤ x ∧ x < 256) → 0 ≤ ls.foldl goI a ∧ ls.foldl goI a < 4294967296 := by
  induction ls with
  | nil => exact fun a h h1 _ => ⟨h, h1⟩
  | cons l ls ih =>
    intro a h h1 hl
    obtain ⟨p, q⟩ := goI_bd a l h h1 (hl l (by simp))
    exact ih _ p q (fun m hm => hl m (by simp [hm]))
theorem take_sum (ls : List (List Int)) (a : Int) (k : Nat) (h : k < ls.length) : (ls.take (k + 1)).foldl goI a = goI ((ls.take k).foldl goI a) ls[k] := by
  rw [List.take_succ_eq_append_getElem h, List.foldl_append]; rfl
set_option maxHeartbeats 400000 in
set_option maxRecDepth 100000 in
theorem crc_Sum.calls (A0 : Option Addr) (c0 : Nat) (l0 : List (List Int)) (r : Int) (w : World) (hr0 : Kd.C (Kd.slice 5 (Kd.int .u8)) w A0 l0.length l0) (_hc0 : l0.length ≤ c0) (h : crc_Sum.f l0 = some r) :
    Calls Try.prog 11 #[.slice A0 l0.length c0] w fun e w' => e = .returned (.int .u32 r) ∧ Below w.heap.size w w' := by
  unfold crc_Sum.f at h
  split at h
  case isFalse => cases h
  rename_i hp
  obtain rfl := Option.some.inj h
  have HP := Aside0.mk hp
  have HR := Aside0.mk hr0
  have hm := Kd.C_max hr0
  clear h hr0 hp
  go_enter Try.func11, Try.ntmps11
  go_wp2
  go_loopw [8, 3] (fun v8 v3 wr => ∃ k : Nat, k ≤ l0.length ∧ v8 = .int .i64 k ∧ v3 = .int .u32 ((l0.take k).foldl goI 0) ∧ Aside0 (Below w.heap.size w wr)) (fun v8 _ _ => l0.length - (intOf v8).toNat)
  case atStart => exact ⟨0, by omega, rfl, rfl, ⟨Below.refl _ _⟩⟩
  case round =>
    obtain ⟨k, hk, rfl, rfl, HB⟩ := hrel
    by_cases hlt : k < l0.length
    · obtain ⟨ad, A', c', e, hx, hc', hC⟩ := C_elem (Kd.C_below HR.out HB.out) k hlt
      subst e
      obtain ⟨hx0, hx1⟩ := sumI_bd (l0.take k) 0 (by decide) (by decide) (fun l hl => HP.out l (List.mem_of_mem_take hl))
      have HT := Aside0.mk (take_sum l0 0 k hlt)
      have hby := HP.out l0[k] (List.getElem_mem hlt)
      have HG := Aside0.mk (crc_Go.calls ((l0.take k).foldl goI 0) A' c' l0[k] (goI ((l0.take k).foldl goI 0) l0[k]) wr hC hc' (if_pos ⟨hx0, hx1, hby⟩))
      clear hby hC hc'
      generalize l0[k] = lk at *
      generalize hz : List.foldl goI 0 (List.take k l0) = z at *
      have HZ := Aside0.mk hz
      clear hz
      go_wp2_with (go_at_call 12; refine (HG.out).mono ?_; rintro e w' ⟨rfl, hb⟩; have HB2 := Aside0.mk (below_step HB.out hb); clear hb)
      go_roundw
      case rel => exact ⟨k + 1, by omega, by go_num, by rw [HT.out], HB2⟩
      case measure => simp [intOf]; omega
    · go_wp2
      go_ret
      exact ⟨by rw [List.take_of_length_le (by omega)]; rfl, HB.out⟩

end Go.Proofs.Ytgoipblpoopemaa.Hp
