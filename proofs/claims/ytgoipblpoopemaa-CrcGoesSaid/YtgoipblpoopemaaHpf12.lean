/- Contracts of functions of the given program, and what they lean on: written by this session's own program hprint.py, which lays hand texts into the kit's printer. -/
import Derived.Test.YtgoipblpoopemaaHp0
import Derived.Test.YtgoipblpoopemaaHpf16
namespace Go.Proofs.Ytgoipblpoopemaa.Hp
open Go.RowKit Go.Proofs.YtgoipblpoopemaaW.PrintWords Go.Proofs.YtgoipblpoopemaaW.PrintLast Go.Proofs.YtgoipblpoopemaaW.PrintMore
attribute [local go_sem] max2_int min2_int max_two min_two max_three min_three max_four min_four   -- for this text's walks alone
set_option linter.unusedVariables false
set_option linter.unusedSimpArgs false

/-! ### crc_Go: function 12 -/
def crcTab : List Int := [0, 274646895, 549293790, 820201905, 1098587580, 1361435347, 1640403810, 1905808397, 2197175160, 2460548119, 2722870694, 2987750089, 3280807620, 3553878443, 3811616794, 4084100981]
def nib (x : Int) : Int := bits .xor .u32 (x / 16) (rd crcTab (bits .and .u32 x 15))
def nibs : Nat → Int → Int
  | 0, x => x
  | m + 1, x => nib (nibs m x)
def goStep (x c : Int) : Int := nibs 2 (bits .xor .u32 x c)
def inv32 (x : Int) : Int := bits .xor .u32 IntKind.u32.max x
def goI (a : Int) (l : List Int) : Int := inv32 (l.foldl goStep (inv32 a))
def crc_Go.f (a0 : Int) (l1 : List Int) : Option Int := if 0 ≤ a0 ∧ a0 < 4294967296 ∧ (∀ x ∈ l1, 0 ≤ x ∧ x < 256) then some (goI a0 l1) else none
def goW (w : World) : World := (w.alloc (.cells tabV 38)).alloc (.cells tabV 38)
theorem goW_cell (w : World) (n : Int) (h0 : 0 ≤ n) (h : n < 16) : (goW w).cell? ⟨w.heap.size + 1, n.toNat, none⟩ = some (.int .u32 (rd crcTab n)) := by
  obtain ⟨m, rfl⟩ := Int.eq_ofNat_of_zero_le h0
  have hm : m < 16 := by omega
  simp only [goW, Int.toNat_natCast, World.cell?, rd]
  have : (World.alloc (World.alloc w (.cells tabV 38)) (.cells tabV 38)).heap[w.heap.size + 1]? = some (.cells tabV 38) := by
    have := heap_alloc_new (w.alloc (.cells tabV 38)) (.cells tabV 38)
    simpa using this
  rw [this]
  have hv : ∀ m : Nat, m < 16 → tabV[m]? = some (.int .u32 (crcTab.getD m 0)) := by
    intro m hm
    simp only [tabV, crcTab]
    rcases m with _ | _ | _ | _ | _ | _ | _ | _ | _ | _ | _ | _ | _ | _ | _ | _ | m <;> first | rfl | omega
  simpa using hv m hm
theorem goW_below (w : World) : Below w.heap.size w (goW w) := by
  unfold goW
  exact below_alloc (below_alloc (Below.refl _ _) _) _
theorem and15 (x : Int) (h : 0 ≤ x) (h1 : x < 4294967296) : 0 ≤ bits .and .u32 x 15 ∧ bits .and .u32 x 15 < 16 := by
  rw [u32_and x 15 h h1 (by decide) (by decide)]
  have := @Nat.and_le_right x.toNat (15 : Int).toNat
  have : ((15 : Int).toNat : Int) = 15 := rfl
  omega
theorem crcTab_bd (n : Int) : 0 ≤ rd crcTab n ∧ rd crcTab n < 4294967296 := by
  have : ∀ x ∈ crcTab, 0 ≤ x ∧ x < 4294967296 := by decide
  unfold rd
  by_cases h : n.toNat < crcTab.length
  · rw [List.getD_eq_getElem?_getD, List.getElem?_eq_getElem h]; exact this _ (List.getElem_mem h)
  · rw [List.getD_eq_getElem?_getD, List.getElem?_eq_none (by omega)]; decide
theorem xor_bd (x y : Int) (h : 0 ≤ x) (h1 : x < 4294967296) (k : 0 ≤ y) (k1 : y < 4294967296) : 0 ≤ bits .xor .u32 x y ∧ bits .xor .u32 x y < 4294967296 := by
  rw [u32_xor _ _ h h1 k k1]
  have c := Nat.xor_lt_two_pow (n := 32) (x := x.toNat) (y := y.toNat) (by omega) (by omega)
  omega
theorem inv_bd (x : Int) (h : 0 ≤ x) (h1 : x < 4294967296) : 0 ≤ inv32 x ∧ inv32 x < 4294967296 := xor_bd _ _ (by decide) (by decide) h h1
theorem nib_bd (x : Int) (h : 0 ≤ x) (h1 : x < 4294967296) : 0 ≤ nib x ∧ nib x < 4294967296 :=
  xor_bd _ _ (by omega) (by omega) (crcTab_bd _).1 (crcTab_bd _).2
theorem nibs_bd (m : Nat) (x : Int) (h : 0 ≤ x) (h1 : x < 4294967296) : 0 ≤ nibs m x ∧ nibs m x < 4294967296 := by
  induction m with
  | zero => exact ⟨h, h1⟩
  | succ m ih => exact nib_bd _ ih.1 ih.2
theorem fold_bd (l : List Int) : ∀ (x : Int), 0 ≤ x → x < 4294967296 → (∀ c ∈ l, 0 ≤ c ∧ c < 256) → 0 ≤ l.foldl goStep x ∧ l.foldl goStep x < 4294967296 := by
  induction l with
  | nil => exact fun x h h1 _ => ⟨h, h1⟩
  | cons c l ih =>
    intro x h h1 hc
    have := hc c (by simp)
    obtain ⟨a, b⟩ := xor_bd x c h h1 (by omega) (by omega)
    obtain ⟨a, b⟩ := nibs_bd 2 _ a b
    exact ih _ a b (fun d hd => hc d (by simp [hd]))
theorem take_fold (l : List Int) (x : Int) (k : Nat) (h : k < l.length) : (l.take (k + 1)).foldl goStep x = nibs 2 (bits .xor .u32 ((l.take k).foldl goStep x) (rd l k)) := by
  have e : rd l k = l[k] := by simp [rd, h]
  rw [List.take_succ_eq_append_getElem h, List.foldl_append, e]; rfl
set_option maxHeartbeats 400000 in
set_option maxRecDepth 100000 in
theorem crc_Go.calls (a0 : Int) (A1 : Option Addr) (c1 : Nat) (l1 : List Int) (r : Int) (w : World) (hr1 : Kd.C (Kd.int .u8) w A1 l1.length l1) (_hc1 : l1.length ≤ c1) (h : crc_Go.f a0 l1 = some r) :
    Calls Try.prog 12 #[.int .u32 a0, .slice A1 l1.length c1] w fun e w' => e = .returned (.int .u32 r) ∧ Below w.heap.size w w' := by
  unfold crc_Go.f at h
  split at h
  case isFalse => cases h
  rename_i hp
  obtain ⟨ha0, ha1, hb⟩ := hp
  have HB := Aside0.mk hb
  have HR := Aside0.mk hr1
  have hm := Kd.C_max hr1
  obtain rfl := Option.some.inj h
  clear h hb hr1
  go_enter Try.func12, Try.ntmps12
  go_wp2_with (go_at_call 16; refine (crc_table_calls _).mono ?_; rintro e w' ⟨rfl, rfl⟩)
  change Code.wp _ _ _ _ (goW w)
  have HW := Aside0.mk (goW_cell w)
  have HRW := Aside0.mk (Kd.C_below HR.out (goW_below w))
  have hI := inv_bd a0 ha0 ha1
  obtain ⟨hI0, hI1⟩ := hI
  go_loop [14, 6] (fun v14 v6 => ∃ k : Nat, k ≤ l1.length ∧ v14 = .int .i64 k ∧ v6 = .int .u32 ((l1.take k).foldl goStep (inv32 a0))) (fun v14 _ => l1.length - (intOf v14).toNat)
  case atStart => exact ⟨0, by omega, rfl, rfl⟩
  case round =>
    obtain ⟨k, hk, rfl, rfl⟩ := hrel
    by_cases hlt : k < l1.length
    · obtain ⟨hx0, hx1⟩ := fold_bd (l1.take k) (inv32 a0) hI0 hI1 (fun c hc => HB.out c (List.mem_of_mem_take hc))
      have hrd : 0 ≤ rd l1 k ∧ rd l1 k < 256 := HB.out _ (by simp [rd, hlt])
      obtain ⟨hr0, hr1⟩ := hrd
      obtain ⟨ad, e, hx⟩ := Kd.at_int HRW.out k (by omega) (by omega)
      subst e
      simp only [Int.toNat_natCast] at hx
      have HT := Aside0.mk (take_fold l1 (inv32 a0) k hlt)
      go_wp2
      go_loop [22, 6] (fun v22 v6 => ∃ m : Nat, m ≤ 2 ∧ v22 = .int .i64 m ∧ v6 = .int .u32 (nibs m (bits .xor .u32 ((l1.take k).foldl goStep (inv32 a0)) (rd l1 k)))) (fun v22 _ => 2 - (intOf v22).toNat)
      case atStart => exact ⟨0, by omega, rfl, rfl⟩
      case round =>
        obtain ⟨m, hm2, rfl, rfl⟩ := hrel
        obtain ⟨hy0, hy1⟩ := xor_bd ((l1.take k).foldl goStep (inv32 a0)) (rd l1 k) hx0 hx1 hr0 (by omega)
        obtain ⟨hn0, hn1⟩ := nibs_bd m _ hy0 hy1
        by_cases hlt2 : m < 2
        · obtain ⟨hq0, hq1⟩ := and15 _ hn0 hn1
          have hcell := HW.out _ hq0 hq1
          clear hy0 hy1 hx hr0 hr1 hx0 hx1 hI0 hI1
          generalize hz : nibs m (bits BinOp.xor IntKind.u32 (List.foldl goStep (inv32 a0) (List.take k l1)) (rd l1 ↑k)) = z at *
          have HZ := Aside0.mk hz
          clear hz
          go_wp2
          refine ⟨⟨m + 1, by omega, by go_num, ?_⟩, by simp [intOf]; omega⟩
          show _ = Value.int .u32 (nib (nibs m _))
          rw [HZ.out]
          rfl
        · obtain rfl : m = 2 := by omega
          go_wp2
          go_round
          case rel => exact ⟨k + 1, by omega, by go_num, by rw [HT.out]⟩
          case measure => simp [intOf]; omega
    · go_wp2
      go_ret
      exact ⟨by rw [List.take_of_length_le (by omega)]; rfl, goW_below w⟩

end Go.Proofs.Ytgoipblpoopemaa.Hp
