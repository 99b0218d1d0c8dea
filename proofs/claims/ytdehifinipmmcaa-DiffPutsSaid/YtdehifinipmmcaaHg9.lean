/- Contracts of functions of the given program, and what they lean on: written by this session's own program, out of hand texts laid into the kit's printer. -/
import Derived.Deep.RegionWith
import Derived.Test.YtdehifinipmmcaaHp0
import Derived.Test.YtdehifinipmmcaaHg1
import Derived.Test.YtdehifinipmmcaaHg4
namespace Go.Proofs.Ytdehifinipmmcaa.Hp
open Go.RowKit Go.Proofs.YtdehifinipmmcaaW.PrintWords Go.Proofs.YtdehifinipmmcaaW.PrintLast Go.Proofs.YtdehifinipmmcaaW.PrintMore
attribute [local go_sem] max2_int min2_int max_two min_two max_three min_three max_four min_four   -- for this text's walks alone
set_option linter.unusedVariables false
set_option linter.unusedSimpArgs false

/-! ### diff_Apply: function 11 -/
def putAt (out : List Int) (a : Nat) (ys : List Int) : List Int := out.take a ++ ys ++ out.drop (a + ys.length)
theorem putAt_len (out : List Int) (a : Nat) (ys : List Int) (h : a + ys.length ≤ out.length) : (putAt out a ys).length = out.length := by simp [putAt]; omega
def recYs (r : S61) : List Int := if r.f2 = true then List.replicate r.f1.toNat 0 else r.f3
def applyR : List Int → List S61 → List Int
  | out, [] => out
  | out, r :: l => applyR (putAt out r.f0.toNat (recYs r)) l
theorem applyR_snoc (out : List Int) (l : List S61) (r : S61) : applyR out (l ++ [r]) = putAt (applyR out l) r.f0.toNat (recYs r) := by
  induction l generalizing out with
  | nil => rfl
  | cons x l ih => exact ih _
theorem put_cons (out : List Int) (a : Nat) (y : Int) (ys : List Int) (h : a < out.length) : putAt out a (y :: ys) = putAt (out.set a y) (a + 1) ys := by
  unfold putAt
  rw [List.take_succ_eq_append_getElem (by simpa using h), List.take_set_of_le (Nat.le_refl a), List.getElem_set_self]
  rw [List.drop_set_of_lt (by omega)]
  simp only [List.length_cons, List.append_assoc, List.singleton_append, List.cons_append, List.nil_append]
  rw [show a + 1 + ys.length = a + (ys.length + 1) by omega]
theorem R_cells {base g cap : Nat} {ok : Nat → Prop} : ∀ (ys : List Int) (W : World) (xs : List Int) (n a : Nat), Kd.R (Kd.int .u8) 5 W base ok (.slice (some ⟨g, 0, none⟩) n cap) xs → a + ys.length ≤ xs.length →
    Kd.R (Kd.int .u8) 5 (W.setCells g a (ys.map (Value.int .u8))) base ok (.slice (some ⟨g, 0, none⟩) n cap) (putAt xs a ys)
  | [], W, xs, n, a, h, hl => by simpa [putAt, World.setCells] using h
  | y :: ys, W, xs, n, a, h, hl => by
    simp only [List.length_cons] at hl
    have h1 := Kd.R_putn (enc := Value.int .u8) (h1 := fun _ => rfl) h (a : Int) y
    rw [Int.toNat_natCast] at h1
    rw [put_cons _ _ _ _ (by omega), List.map_cons, World.setCells]
    exact R_cells ys _ _ n (a + 1) h1 (by simp; omega)
theorem below_cells {w : World} {g : Nat} (hg : w.heap.size ≤ g) : ∀ (vs : List Value) (W : World) (a : Nat), Below w.heap.size w W → Below w.heap.size w (W.setCells g a vs)
  | [], _, _, h => h
  | v :: vs, W, a, h => by
    rw [World.setCells]
    exact below_cells hg vs _ _ (below_set h hg)
theorem far_cells {g b : Nat} (hne : b ≠ g) {o : Obj} : ∀ (vs : List Value) (W : World) (a : Nat), W.heap[b]? = some o → (W.setCells g a vs).heap[b]? = some o
  | [], _, _, h => h
  | v :: vs, W, a, h => by
    rw [World.setCells]
    exact far_cells hne vs _ _ ((Below.heap_setCell W _ v b hne).trans h)
theorem clear_run {base g cap n lo len c : Nat} {ok : Nat → Prop} {W : World} {xs : List Int} (h : Kd.R (Kd.int .u8) 5 W base ok (.slice (some ⟨g, 0, none⟩) n cap) xs) (hl : lo + len ≤ xs.length) (hp : 0 < len) (ty : Nat) :
    (Builtin.clear_ #[25] ty #[.slice (some ⟨g, lo, none⟩) len c]).run Try.prog W = .ok (.tuple #[]) (W.setCells g lo ((List.replicate len (0 : Int)).map (Value.int .u8))) := by
  rw [List.map_replicate]
  have hz : ∀ w, (zeroValue 5).run Try.prog w = .ok (.int .u8 0) w := fun w => by
    obtain ⟨i0, hi, hzz⟩ := Option.map_eq_some_iff.1 info5
    simp only [Prod.mk.injEq] at hzz
    simp [zeroValue, typeInfo, hi, hzz.1]
  refine Lib.run_clear_slice W 25 5 ty (.int .u8 0) Try.underlying25 hz rfl rfl g lo len c hp (fun j hj => ?_) (fun j hj => ?_)
  · have := (Kd.R_celln (enc := Value.int .u8) (h1 := fun _ => rfl) 0 h ((lo + j : Nat) : Int) (by omega) (by obtain ⟨rfl, -⟩ := Kd.R_reads' h; omega)).1
    rw [Int.toNat_natCast] at this
    rw [this]; rfl
  · have := (Kd.R_celln (enc := Value.int .u8) (h1 := fun _ => rfl) 0 h ((lo + j : Nat) : Int) (by omega) (by obtain ⟨rfl, -⟩ := Kd.R_reads' h; omega)).2
    rw [Int.toNat_natCast] at this
    exact this
theorem copy_run {base g cap n lo len c c' : Nat} {ok : Nat → Prop} {W : World} {xs ys : List Int} {ad : Addr} (h : Kd.R (Kd.int .u8) 5 W base ok (.slice (some ⟨g, 0, none⟩) n cap) xs) (hl : lo + ys.length ≤ xs.length) (hlen : ys.length ≤ len) (hp : 0 < ys.length) (hc : Kd.C (Kd.int .u8) W (some ad) ys.length ys) (ty : Nat) :
    (Builtin.copy_ #[25, 25] ty #[.slice (some ⟨g, lo, none⟩) len c, .slice (some ad) ys.length c']).run Try.prog W = .ok (.int .i64 ys.length) (W.setCells g lo (ys.map (Value.int .u8))) := by
  have hsz : (Try.prog.info? 5).map (·.size) = some 1 := by
    obtain ⟨i, hi, hz⟩ := Option.map_eq_some_iff.1 info5
    simp only [Prod.mk.injEq] at hz
    rw [hi, Option.map_some, hz.2.1]
  obtain ⟨ad', e, hx⟩ := C_cells hc hp
  cases e
  have hml : (ys.map (Value.int .u8)).length = Nat.min ys.length len := by rw [List.length_map]; exact (Nat.min_eq_left hlen).symm
  have := run_copy_cells (P := Try.prog) W 25 25 ty 5 g lo len c ad ys.length c' (ys.map (Value.int .u8)) Try.underlying25 hsz hml
    (fun j v hv => by
      simp only [List.getElem?_map, Option.map_eq_some_iff] at hv
      obtain ⟨y, hy, rfl⟩ := hv
      have hj : j < ys.length := by
        rcases Nat.lt_or_ge j ys.length with h | h
        · exact h
        · rw [List.getElem?_eq_none h] at hy; cases hy
      rw [hx j hj]; simp [rd, hy])
    (fun j hj => by
      rw [List.length_map] at hj
      have := (Kd.R_celln (enc := Value.int .u8) (h1 := fun _ => rfl) 0 h ((lo + j : Nat) : Int) (by omega) (by obtain ⟨rfl, -⟩ := Kd.R_reads' h; omega)).1
      rw [Int.toNat_natCast] at this
      rw [this]; rfl)
    (fun j hj => by
      rw [List.length_map] at hj
      have := (Kd.R_celln (enc := Value.int .u8) (h1 := fun _ => rfl) 0 h ((lo + j : Nat) : Int) (by omega) (by obtain ⟨rfl, -⟩ := Kd.R_reads' h; omega)).2
      rw [Int.toNat_natCast] at this
      exact this)
    (fun v hv => by simp only [List.mem_map] at hv; obtain ⟨y, _, rfl⟩ := hv; rfl)
  rw [this, List.length_map]
  rfl
def applyO (F T : Int) (l : List S61) (old : List Int) : List Int × Option Int :=
  if goodD F T l = true then (if (old.length : Int) = F then (applyR (szL old T.toNat) l, none) else ([], some 1)) else ([], some 2)
set_option maxHeartbeats 4000000 in
set_option maxRecDepth 100000 in
theorem diff_Apply.bad (F T : Int) (A2 : Option Addr) (c2 : Nat) (l2 : List S61) (A1 : Option Addr) (c1 : Nat) (l1 : List Int) (w : World) (hr2 : Kd.C k61 w A2 l2.length l2) (hc2 : l2.length ≤ c2) (hr1 : Kd.C (Kd.int .u8) w A1 l1.length l1) (hl2 : l2.length ≤ 1000000) (E : Int)
    (h : (goodD F T l2 = false ∧ E = 2) ∨ (goodD F T l2 = true ∧ ¬ (l1.length : Int) = F ∧ E = 1)) :
    Calls Try.prog 11 #[.agg #[.int .i64 F, .int .i64 T, .slice A2 l2.length c2], .slice A1 l1.length c1] w fun e w' => e = .returned (.tuple #[.slice none 0 0, errW (some E)]) ∧ Below w.heap.size w w' := by
  have hu27 := Try.underlying30
  have hu33 := Try.underlying39
  have HG := fun W (hC : Kd.C k61 W A2 l2.length l2) => diff_Good.calls (l2.length + 2) F T A2 c2 l2 _ W hC hc2 (good_f F T l2 hl2 _ (by omega))
  have HR2 := Aside0.mk hr2
  have HL1 := Aside0.mk hr1.2.1
  clear hr2 hr1
  rcases h with ⟨h, rfl⟩ | ⟨h, hF, rfl⟩
  · rw [h] at HG
    go_enter Try.func11, Try.ntmps11
    go_wp2_with fail
    refine (HG _ (Kd.C_alloc HR2.out _)).mono ?_
    rintro e w1 ⟨rfl, hb⟩
    have HB := Aside0.mk (below_step (below_alloc (Below.refl _ _) _) hb)
    clear hb
    go_wp2
    go_ret2
    exact ⟨by simp [errW_some], HB.out⟩
  · rw [h] at HG
    have hF2 : ((l1.length : Int) == F) = false := beq_eq_false_iff_ne.2 hF
    clear hF
    go_enter Try.func11, Try.ntmps11
    go_wp2_with fail
    refine (HG _ (Kd.C_alloc HR2.out _)).mono ?_
    rintro e w1 ⟨rfl, hb⟩
    have HB := Aside0.mk (below_step (below_alloc (Below.refl _ _) _) hb)
    have hk := blk_below (blk_new w (.cells #[.int .i64 F, .int .i64 T, .slice A2 l2.length c2] 35)) hb
    have hz0 : w1.cell? ⟨w.heap.size, 0, none⟩ = some (.int .i64 F) := (blk_cell hk 0).trans rfl
    clear hb hk
    go_wp2
    go_ret2
    exact ⟨by simp [errW_some], HB.out⟩
theorem goodR_mem (T : Int) : ∀ (l : List S61) (a : Int), goodR T a l = true → 0 ≤ a → ∀ r ∈ l, 0 ≤ r.f0 ∧ 1 ≤ r.f1 ∧ r.f1 ≤ T ∧ r.f0 ≤ T - r.f1 ∧ (r.f3.length : Int) = (if r.f2 = true then 0 else r.f1)
  | [], _, _, _, r, hr => by cases hr
  | x :: l, a, h, ha, r, hr => by
    obtain ⟨⟨h1, h2, h3, h4, h5⟩, h6⟩ := (goodR_cons T a x l).1 h
    rcases List.mem_cons.1 hr with rfl | hr
    · exact ⟨by omega, h2, h3, h4, h5⟩
    · exact goodR_mem T l _ h6 (by omega) r hr
theorem recYs_len (T : Int) (r : S61) (h : 0 ≤ r.f0 ∧ 1 ≤ r.f1 ∧ r.f1 ≤ T ∧ r.f0 ≤ T - r.f1 ∧ (r.f3.length : Int) = (if r.f2 = true then 0 else r.f1)) : (recYs r).length = r.f1.toNat := by
  unfold recYs
  have := h.2.2.2.2
  cases hz : r.f2
  · rw [hz] at this; simp at this ⊢; omega
  · simp
theorem applyR_len (T : Int) : ∀ (l : List S61) (out : List Int), (∀ r ∈ l, 0 ≤ r.f0 ∧ 1 ≤ r.f1 ∧ r.f1 ≤ T ∧ r.f0 ≤ T - r.f1 ∧ (r.f3.length : Int) = (if r.f2 = true then 0 else r.f1)) → (out.length : Int) = T → (applyR out l).length = out.length
  | [], _, _, _ => rfl
  | r :: l, out, h, ho => by
    have h1 := h r (List.mem_cons_self ..)
    have h2 := recYs_len T r h1
    have h3 := putAt_len out r.f0.toNat (recYs r) (by omega)
    rw [applyR, applyR_len T l _ (fun x hx => h x (List.mem_cons_of_mem _ hx)) (by omega), h3]
set_option maxHeartbeats 4000000 in
set_option maxRecDepth 100000 in
theorem diff_Apply.good (n : Nat) (A2 : Option Addr) (c2 : Nat) (l2 : List S61) (A1 : Option Addr) (c1 : Nat) (l1 : List Int) (w : World) (hr2 : Kd.C k61 w A2 l2.length l2) (hc2 : l2.length ≤ c2) (hr1 : Kd.C (Kd.int .u8) w A1 l1.length l1) (hc1 : l1.length ≤ c1) (hl2 : l2.length ≤ 1000000) (hn : n ≤ 4096)
    (h : goodD l1.length n l2 = true) :
    Calls Try.prog 11 #[.agg #[.int .i64 l1.length, .int .i64 (n : Int), .slice A2 l2.length c2], .slice A1 l1.length c1] w fun e w' => ∃ v : Value, e = .returned (.tuple #[v, errW none]) ∧ Kd.R (Kd.int .u8) 5 w' w.heap.size (fun _ => True) v (applyR (szL l1 n) l2) ∧ Below w.heap.size w w' := by
  have HG := fun W (hC : Kd.C k61 W A2 l2.length l2) => diff_Good.calls (l2.length + 2) l1.length n A2 c2 l2 _ W hC hc2 (good_f l1.length n l2 hl2 _ (by omega))
  rw [h] at HG
  have hgm := Aside0.mk (goodR_mem n l2 0 (by unfold goodD at h; simp only [Bool.and_eq_true] at h; exact h.2) (by omega))
  have HR2 := Aside0.mk hr2
  have HR1 := Aside0.mk hr1
  clear hr2 hr1 h
  go_enter Try.func11, Try.ntmps11
  go_wp2_with fail
  refine (HG _ (Kd.C_alloc HR2.out _)).mono ?_
  rintro e w1 ⟨rfl, hb⟩
  have HB := Aside0.mk (below_step (below_alloc (Below.refl w.heap.size w) _) hb)
  have hk := blk_below (blk_new w (.cells #[.int .i64 l1.length, .int .i64 (n : Int), .slice A2 l2.length c2] 35)) hb
  have hz0 : w1.cell? ⟨w.heap.size, 0, none⟩ = some (.int .i64 l1.length) := (blk_cell hk 0).trans rfl
  have hz1 : w1.cell? ⟨w.heap.size, 1, none⟩ = some (.int .i64 (n : Int)) := (blk_cell hk 1).trans rfl
  have HK := Aside0.mk hk
  clear hb hk
  go_wp2_with fail
  refine (diff_resized.calls A1 c1 l1 n _ (Kd.C_below HR1.out HB.out) hc1 (by omega)).mono ?_
  rintro e w2 ⟨v, rfl, ho, hb⟩
  have HB2 := Aside0.mk (below_step HB.out hb)
  have hz2 : w2.cell? ⟨w.heap.size, 2, none⟩ = some (.slice A2 l2.length c2) := (blk_cell (blk_below HK.out hb) 2).trans rfl
  have HO := Aside0.mk (Kd.R_lower ho HB.out.size)
  obtain ⟨A, c, rfl, -⟩ := Kd.R_reads ho
  rw [szL_len] at HO
  clear ho hb hz0 hz1
  rw [szL_len]
  go_wp2
  clear hz2 HK HB HG
  go_loopw [28] (fun v28 wr => ∃ k : Nat, k ≤ l2.length ∧ v28 = .int .i64 k ∧ Aside0 (Kd.R (Kd.int .u8) 5 wr w.heap.size (fun _ => True) (.slice A n c) (applyR (szL l1 n) (l2.take k))) ∧ Aside0 (Below w.heap.size w wr)) (fun v28 _ => l2.length - (intOf v28).toNat)
  case atStart => exact ⟨0, by omega, rfl, ⟨HO.out⟩, HB2⟩
  case round =>
    clear HO HB2
    obtain ⟨k, hk, rfl, HO, HB⟩ := hrel
    by_cases hlt : k < l2.length
    · obtain ⟨ad, A3, c3, e, hx0, hx1, hx2, hx3, hl3, hC3⟩ := at_T61 (Kd.C_below HR2.out HB.out) k (by omega) (by omega)
      subst e
      have HST := Aside0.mk (show l2.take (k + 1) = l2.take k ++ [rd_T61 l2 k] by rw [List.take_succ_eq_append_getElem hlt, rd_mem l2 k hlt])
      have HM := Aside0.mk (hgm.out (rd_T61 l2 k) (by rw [rd_mem l2 k hlt]; exact List.getElem_mem hlt))
      have HLN := Aside0.mk (applyR_len n (l2.take k) (szL l1 n) (fun r hr => hgm.out r (List.mem_of_mem_take hr)) (by rw [szL_len]))
      have HC3 := Aside0.mk hC3
      clear hC3
      simp only [Int.toNat_natCast] at hx0 hx1 hx2 hx3
      generalize rd_T61 l2 k = r at *
      obtain ⟨r0, r1, z, d⟩ := r
      have hm := HM.out
      simp only at hm hx0 hx1 hx2 hx3 hl3
      have HC3 : Aside0 (Kd.C (Kd.int .u8) wr A3 d.length d) := HC3
      obtain ⟨a, rfl⟩ := Int.eq_ofNat_of_zero_le hm.1
      obtain ⟨m, rfl⟩ := Int.eq_ofNat_of_zero_le (show 0 ≤ r1 by omega)
      have hln := HLN.out
      rw [szL_len] at hln
      obtain ⟨g, cap, hgv, hgb, hgl, cs, hgc⟩ := Kd.R_form HO.out (by omega)
      injection hgv with hA e3 e4
      subst hA e4
      have hcn : n ≤ c := by
        have := (Kd.R_reads' HO.out).2.1
        omega
      have h1 : (a : Int) ≤ (a : Int) + m := by omega
      have h2 : (a : Int) + m ≤ n := by omega
      have h3 : IntKind.i64.wrap ((a : Int) + m) = ((a + m : Nat) : Int) := by rw [IntWalk.i64_in _ (by omega)]; omega
      have h4 : (a : Int) + m ≤ c := by omega
      have h5 : (a : Int) ≤ n := by omega
      have HH := Aside0.mk hgc
      clear hgc e3
      have hm1 : 1 ≤ m := by omega
      have hca : ¬ c = a := by omega
      cases z
      · have hd : d.length = m := by have := hm.2.2.2.2; rw [if_neg (by simp)] at this; omega
        clear hm
        have hdp : 0 < d.length := by rw [hd]; omega
        obtain ⟨ad3, e3, -⟩ := C_cells HC3.out hdp
        clear hdp
        subst e3
        have hd1 : 1 ≤ d.length := by omega
        have hd2 : a + d.length ≤ n := by omega
        have HD := Aside0.mk hd
        clear hd
        have HN := fun ty => copy_run (c := c - a) (c' := c3) (len := n - a) (ys := d) (Kd.R_drew (Kd.R_alloc HO.out (.cells #[.int .i64 a, .int .i64 m, .bool false, .slice (some ad3) d.length c3] 61))) (lo := a) (by omega) (by omega) hd1 (Kd.C_drew (Kd.C_alloc HC3.out _)) ty
        have HX := Aside0.mk (R_cells d _ _ n a (Kd.R_drew (Kd.R_alloc HO.out (.cells #[.int .i64 a, .int .i64 m, .bool false, .slice (some ad3) d.length c3] 61))) (by omega))
        have HBX := Aside0.mk (below_cells hgb (d.map (Value.int .u8)) _ a (below_drew (below_alloc HB.out (.cells #[.int .i64 a, .int .i64 m, .bool false, .slice (some ad3) d.length c3] 61))))
        clear hd1 hd2
        go_wp2
        go_region_with fail
        all_goals (
          go_wp2
          refine ⟨⟨k + 1, by omega, by go_num, ⟨?_⟩, HBX⟩, by simp [intOf]; omega⟩
          rw [HST.out, applyR_snoc]
          exact HX.out)
      · clear hm
        have HN := fun ty => clear_run (c := c - a) (Kd.R_alloc HO.out (.cells #[.int .i64 a, .int .i64 m, .bool true, .slice A3 d.length c3] 61)) (lo := a) (len := m) (by omega) (by omega) ty
        have HX := R_cells (List.replicate m 0) _ _ n a (Kd.R_alloc HO.out (.cells #[.int .i64 a, .int .i64 m, .bool true, .slice A3 d.length c3] 61)) (by simp; omega)
        have HBX := below_cells hgb ((List.replicate m (0 : Int)).map (Value.int .u8)) _ a (below_alloc HB.out (.cells #[.int .i64 a, .int .i64 m, .bool true, .slice A3 d.length c3] 61))
        rw [List.map_replicate] at HX HBX
        have HX := Aside0.mk HX
        have HBX := Aside0.mk HBX
        go_wp2
        refine ⟨⟨k + 1, by omega, by go_num, ⟨?_⟩, HBX⟩, by simp [intOf]; omega⟩
        rw [HST.out, applyR_snoc]
        exact HX.out
    · obtain rfl : k = l2.length := by omega
      go_wp2
      go_ret2
      exact ⟨_, rfl, by have := HO.out; rwa [List.take_of_length_le (Nat.le_refl _)] at this, HB.out⟩
theorem diff_Apply.calls (F T : Int) (A2 : Option Addr) (c2 : Nat) (l2 : List S61) (A1 : Option Addr) (c1 : Nat) (l1 : List Int) (w : World) (hr2 : Kd.C k61 w A2 l2.length l2) (hc2 : l2.length ≤ c2) (hr1 : Kd.C (Kd.int .u8) w A1 l1.length l1) (hc1 : l1.length ≤ c1) (hl2 : l2.length ≤ 1000000) :
    Calls Try.prog 11 #[.agg #[.int .i64 F, .int .i64 T, .slice A2 l2.length c2], .slice A1 l1.length c1] w fun e w' => ∃ v : Value, e = .returned (.tuple #[v, errW (applyO F T l2 l1).2]) ∧ Kd.R (Kd.int .u8) 5 w' w.heap.size (fun _ => True) v (applyO F T l2 l1).1 ∧ Below w.heap.size w w' := by
  unfold applyO
  by_cases hg : goodD F T l2 = true
  · rw [if_pos hg]
    by_cases hF : (l1.length : Int) = F
    · rw [if_pos hF]
      subst hF
      have hT : 0 ≤ T ∧ T ≤ 4096 := by unfold goodD at hg; simp only [Bool.and_eq_true, decide_eq_true_eq] at hg; omega
      obtain ⟨n, rfl⟩ := Int.eq_ofNat_of_zero_le hT.1
      exact diff_Apply.good n A2 c2 l2 A1 c1 l1 w hr2 hc2 hr1 hc1 hl2 (by omega) hg
    · rw [if_neg hF]
      refine (diff_Apply.bad F T A2 c2 l2 A1 c1 l1 w hr2 hc2 hr1 hl2 1 (.inr ⟨hg, hF, rfl⟩)).mono ?_
      rintro e w1 ⟨rfl, hb⟩
      exact ⟨_, rfl, Kd.R_nil _ _ _ _ _, hb⟩
  · rw [if_neg hg]
    refine (diff_Apply.bad F T A2 c2 l2 A1 c1 l1 w hr2 hc2 hr1 hl2 2 (.inl ⟨by simpa using hg, rfl⟩)).mono ?_
    rintro e w1 ⟨rfl, hb⟩
    exact ⟨_, rfl, Kd.R_nil _ _ _ _ _, hb⟩

end Go.Proofs.Ytdehifinipmmcaa.Hp
