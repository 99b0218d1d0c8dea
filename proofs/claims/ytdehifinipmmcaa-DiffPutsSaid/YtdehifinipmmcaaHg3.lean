/- Contracts of functions of the given program, and what they lean on: written by this session's own program, out of hand texts laid into the kit's printer. -/
import Derived.Test.YtdehifinipmmcaaHp0
import Derived.Test.YtdehifinipmmcaaHg1
namespace Go.Proofs.Ytdehifinipmmcaa.Hp
open Go.RowKit Go.Proofs.YtdehifinipmmcaaW.PrintWords Go.Proofs.YtdehifinipmmcaaW.PrintLast Go.Proofs.YtdehifinipmmcaaW.PrintMore
attribute [local go_sem] max2_int min2_int max_two min_two max_three min_three max_four min_four   -- for this text's walks alone
set_option linter.unusedVariables false
set_option linter.unusedSimpArgs false

/-! ### diff_sized: function 42 -/
def diff_sized.f (a0 : Int) : Option (Bool) := if a0 ≥ 0 then (some (decide (a0 ≤ 4096))) else (some false)
set_option maxHeartbeats 8000000 in
set_option maxRecDepth 100000 in
theorem diff_sized.calls (a0 : Int) (r : Bool) (w : World) (h : diff_sized.f a0 = some r) :
    Calls Try.prog 42 #[.int .i64 a0] w fun e w' => e = .returned (.bool r) ∧ Drawn0 w w' := by
  have H : (if a0 ≥ 0 then (some (decide (a0 ≤ 4096))) else (some false)) = some r := h
  clear h
  by_cases c2 : a0 ≥ 0
  · rw [if_pos c2] at H
    have c2b0 : decide (0 ≤ a0) = true := decide_eq_true c2
    clear c2
    obtain rfl := Option.some.inj H
    go_enter Try.func42, Try.ntmps42
    go_wp2
    go_ret
    exact ⟨by first | rfl | (simp; done) | (simp [*]; done), by repeat (first | exact Drawn0.refl _ | apply Drawn0.step)⟩
  · rw [if_neg c2] at H
    have c2b0 : decide (0 ≤ a0) = false := decide_eq_false c2
    clear c2
    obtain rfl := Option.some.inj H
    go_enter Try.func42, Try.ntmps42
    go_wp2
    go_ret
    exact ⟨by first | rfl | (simp; done) | (simp [*]; done), by repeat (first | exact Drawn0.refl _ | apply Drawn0.step)⟩

/-! ### slices_Equal_byte_byte: function 51 -/
def slices_Equal_byte_byte.l0 : Nat → List Int → List Int → Int → Int → Option (Bool)
  | 0, _, _, _, _ => none
  | k + 1, x0, x1, x12, x13 => if x13 < x12 then (if 0 ≤ x13 then (if x13 < (x0.length : Int) then (if x13 < (x1.length : Int) then (if (rd x0 x13) = (rd x1 x13) then (slices_Equal_byte_byte.l0 k x0 x1 x12 (wrap64 (x13 + 1))) else (some false)) else (none)) else (none)) else (none)) else (some true)
def slices_Equal_byte_byte.f (k : Nat) (l0 : List Int) (l1 : List Int) : Option (Bool) := if (l0.length : Int) = (l1.length : Int) then (slices_Equal_byte_byte.l0 k l0 l1 (l0.length : Int) 0) else (some false)
theorem slices_Equal_byte_byte.mono_l : ∀ k, (∀ y0 y1 y2 y3, LeO (slices_Equal_byte_byte.l0 k y0 y1 y2 y3) (slices_Equal_byte_byte.l0 (k + 1) y0 y1 y2 y3))
  | 0 => fun _ _ _ _ r h => by simp [slices_Equal_byte_byte.l0] at h
  | k + 1 => by
    have ih0 := slices_Equal_byte_byte.mono_l k
    · intro y0 y1 y2 y3
      unfold slices_Equal_byte_byte.l0
      repeat' first
      | (with_reducible exact ih0 _ _ _ _)
      | (with_reducible exact LeO.refl _)
      | (with_reducible exact LeO.none _)
      | (with_reducible refine LeO.ite ?_ ?_)
      | (with_reducible refine LeO.bind ?_ (fun _ => ?_))
      | exact ih0 _ _ _ _
      | exact LeO.none _
      | refine LeO.ite ?_ ?_
      | refine LeO.bind ?_ (fun _ => ?_)
theorem slices_Equal_byte_byte.mono : ∀ a0 a1 k, LeO (slices_Equal_byte_byte.f k a0 a1) (slices_Equal_byte_byte.f (k + 1) a0 a1) := by
  intro a0 a1 k
  have ih0 := slices_Equal_byte_byte.mono_l k
  unfold slices_Equal_byte_byte.f
  repeat' first
      | (with_reducible exact ih0 _ _ _ _)
      | (with_reducible exact LeO.refl _)
      | (with_reducible exact LeO.none _)
      | (with_reducible refine LeO.ite ?_ ?_)
      | (with_reducible refine LeO.bind ?_ (fun _ => ?_))
      | exact ih0 _ _ _ _
      | exact LeO.none _
      | refine LeO.ite ?_ ?_
      | refine LeO.bind ?_ (fun _ => ?_)
set_option maxHeartbeats 8000000 in
set_option maxRecDepth 100000 in
theorem slices_Equal_byte_byte.calls (k : Nat) (A0 : Option Addr) (c0 : Nat) (l0 : List Int) (A1 : Option Addr) (c1 : Nat) (l1 : List Int) (r : Bool) (w : World) (hr0 : Kd.C (Kd.int .u8) w A0 l0.length l0) (hc0 : l0.length ≤ c0) (hr1 : Kd.C (Kd.int .u8) w A1 l1.length l1) (hc1 : l1.length ≤ c1) (h : slices_Equal_byte_byte.f k l0 l1 = some r) :
    Calls Try.prog 51 #[.slice A0 l0.length c0, .slice A1 l1.length c1] w fun e w' => e = .returned (.bool r) ∧ Drawn0 w w' := by
  have HR0 := Aside0.mk hr0
  have HC0 := Aside0.mk hc0
  clear hr0 hc0
  have HR1 := Aside0.mk hr1
  have HC1 := Aside0.mk hc1
  clear hr1 hc1
  have H : (if (l0.length : Int) = (l1.length : Int) then (slices_Equal_byte_byte.l0 k l0 l1 (l0.length : Int) 0) else (some false)) = some r := h
  clear h
  by_cases c3 : (l0.length : Int) = (l1.length : Int)
  · rw [if_pos c3] at H
    have c3b0 : ((l0.length : Int) == (l1.length : Int)) = true := beq_iff_eq.mpr c3
    have c3b1 : ((l0.length : Int) != (l1.length : Int)) = false := bne_eq_false_iff_eq.mpr c3
    have c3b2 : (l0.length == l1.length) = true := by first | simpa using c3 | (simp at c3 ⊢; omega)
    clear c3
    have H' := Aside0.mk H
    clear H
    go_enter Try.func51, Try.ntmps51
    go_wp2
    repeat (go_quiet (fail); try go_wp2)
    go_loopg [13] k (fun kq v13 w' => ∃ (x13_1 : Int), v13 = .int .i64 x13_1 ∧ Aside0 (slices_Equal_byte_byte.l0 kq l0 l1 (l0.length : Int) x13_1 = some r) ∧ Aside0 (kq ≤ k) ∧ Drawn0 w w')
    case atStart => exact ⟨(0), (by first | rfl | (simp; done) | (simp [*]; done)), H', ⟨Nat.le_refl _⟩, by repeat (first | exact Drawn0.refl _ | apply Drawn0.step)⟩
    case round =>
      clear H'
      try clear c1
      try clear p2
      try clear c3
      try clear c3b0
      try clear c3b1
      try clear c3b2
      obtain ⟨x13_1, rfl, HA, HK1, ⟨m1, rfl⟩⟩ := hrel
      cases gk with
      | zero => exact absurd HA.out (by simp [slices_Equal_byte_byte.l0])
      | succ k1 =>
        have H := HA.out
        clear HA
        simp only [slices_Equal_byte_byte.l0] at H
        by_cases c4 : x13_1 < (l0.length : Int)
        · rw [if_pos c4] at H
          have c4b0 : decide (x13_1 < (l0.length : Int)) = true := decide_eq_true c4
          clear c4
          by_cases c5 : 0 ≤ x13_1
          · rw [if_pos c5] at H
            have c5b0 : decide (0 ≤ x13_1) = true := decide_eq_true c5
            clear c5
            by_cases c6 : x13_1 < (l0.length : Int)
            · rw [if_pos c6] at H
              have c6b0 : decide (x13_1 < (l0.length : Int)) = true := decide_eq_true c6
              clear c6
              by_cases c7 : x13_1 < (l1.length : Int)
              · rw [if_pos c7] at H
                have c7b0 : decide (x13_1 < (l1.length : Int)) = true := decide_eq_true c7
                clear c7
                by_cases c8 : (rd l0 x13_1) = (rd l1 x13_1)
                · rw [if_pos c8] at H
                  have c8b0 : ((rd l0 x13_1) == (rd l1 x13_1)) = true := beq_iff_eq.mpr c8
                  have c8b1 : ((rd l0 x13_1) != (rd l1 x13_1)) = false := bne_eq_false_iff_eq.mpr c8
                  clear c8
                  have H' := Aside0.mk H
                  clear H
                  have p101 : 0 ≤ (x13_1 : Int) := of_decide_eq_true (by first | (with_reducible assumption) | assumption)
                  have q101 : x13_1 < (l0.length : Int) := of_decide_eq_true (by first | (with_reducible assumption) | assumption)
                  obtain ⟨ad101, e101, hx101_0⟩ := Kd.at_int HR0.out x13_1 p101 q101
                  cases e101
                  replace p101 := eq_true p101
                  replace q101 := eq_true q101
                  have p102 : 0 ≤ (x13_1 : Int) := of_decide_eq_true (by first | (with_reducible assumption) | assumption)
                  have q102 : x13_1 < (l1.length : Int) := of_decide_eq_true (by first | (with_reducible assumption) | assumption)
                  obtain ⟨ad102, e102, hx102_0⟩ := Kd.at_int HR1.out x13_1 p102 q102
                  cases e102
                  replace p102 := eq_true p102
                  replace q102 := eq_true q102
                  go_wp2
                  repeat (go_quiet (fail); try go_wp2)
                  go_roundg k1
                  case measure => have := HK1.out; omega
                  case rel => exact ⟨(wrap64 (x13_1 + 1)), (by first | rfl | (simp; done) | (simp [*]; done)), H', ⟨by have := HK1.out; omega⟩, by repeat (first | exact Drawn0.refl _ | apply Drawn0.step)⟩
                · rw [if_neg c8] at H
                  have c8b0 : ((rd l0 x13_1) == (rd l1 x13_1)) = false := beq_eq_false_iff_ne.mpr c8
                  have c8b1 : ((rd l0 x13_1) != (rd l1 x13_1)) = true := bne_iff_ne.mpr c8
                  obtain rfl := Option.some.inj H
                  have p101 : 0 ≤ (x13_1 : Int) := of_decide_eq_true (by first | (with_reducible assumption) | assumption)
                  have q101 : x13_1 < (l0.length : Int) := of_decide_eq_true (by first | (with_reducible assumption) | assumption)
                  obtain ⟨ad101, e101, hx101_0⟩ := Kd.at_int HR0.out x13_1 p101 q101
                  cases e101
                  replace p101 := eq_true p101
                  replace q101 := eq_true q101
                  have p102 : 0 ≤ (x13_1 : Int) := of_decide_eq_true (by first | (with_reducible assumption) | assumption)
                  have q102 : x13_1 < (l1.length : Int) := of_decide_eq_true (by first | (with_reducible assumption) | assumption)
                  obtain ⟨ad102, e102, hx102_0⟩ := Kd.at_int HR1.out x13_1 p102 q102
                  cases e102
                  replace p102 := eq_true p102
                  replace q102 := eq_true q102
                  go_wp2
                  repeat (go_quiet (fail); try go_wp2)
                  go_ret
                  exact ⟨by first | rfl | (simp; done) | (simp [*]; done), by repeat (first | exact Drawn0.refl _ | apply Drawn0.step)⟩
              · rw [if_neg c7] at H
                exact absurd H (by simp)
            · rw [if_neg c6] at H
              exact absurd H (by simp)
          · rw [if_neg c5] at H
            exact absurd H (by simp)
        · rw [if_neg c4] at H
          have c4b0 : decide (x13_1 < (l0.length : Int)) = false := decide_eq_false c4
          clear c4
          obtain rfl := Option.some.inj H
          go_wp2
          repeat (go_quiet (fail); try go_wp2)
          go_ret
          exact ⟨by first | rfl | (simp; done) | (simp [*]; done), by repeat (first | exact Drawn0.refl _ | apply Drawn0.step)⟩
  · rw [if_neg c3] at H
    have c3b0 : ((l0.length : Int) == (l1.length : Int)) = false := beq_eq_false_iff_ne.mpr c3
    have c3b1 : ((l0.length : Int) != (l1.length : Int)) = true := bne_iff_ne.mpr c3
    have c3b2 : (l0.length == l1.length) = false := by first | simpa using c3 | (simp at c3 ⊢; omega)
    obtain rfl := Option.some.inj H
    go_enter Try.func51, Try.ntmps51
    go_wp2
    repeat (go_quiet (fail); try go_wp2)
    go_ret
    exact ⟨by first | rfl | (simp; done) | (simp [*]; done), by repeat (first | exact Drawn0.refl _ | apply Drawn0.step)⟩

/-! ### slices_Clone_byte_byte: function 63 -/
/-- A copy of its own. -/
theorem slices_Clone_byte_byte.own (A0 : Option Addr) (c0 : Nat) (l0 : List Int) (w : World) (hr0 : Kd.C (Kd.int .u8) w A0 l0.length l0) (hp : l0.length < 140737488355328) :
    Calls Try.prog 63 #[.slice A0 l0.length c0] w fun e w' => ∃ v0_ : Value, e = .returned (v0_) ∧ Kd.R (Kd.int .u8) 5 w' w.heap.size (fun _ => True) v0_ l0 ∧ Below w.heap.size w w' := by
  have HR := Aside0.mk hr0
  rcases A0 with _ | ad
  · have hl : l0 = [] := by
      rcases l0 with _ | ⟨x, l⟩
      · rfl
      · obtain ⟨_, _, hc⟩ := hr0
        obtain ⟨ad, e, _⟩ := hc (by simp)
        cases e
    subst hl
    clear hr0 HR
    have heq : ∀ W : World, (binOp .eql 25 (.slice none 0 c0) (.slice none 0 0)).run Try.prog W = .ok (.bool true) W := fun W => Lib.run_eql_slice_nil (P := Try.prog) W 25 5 none 0 c0 0 0 Try.underlying25
    simp only [List.length_nil] at hp ⊢
    go_enter Try.func63, Try.ntmps63
    go_wp2
    go_ret
    exact ⟨_, rfl, Kd.R_nil _ _ _ _ _, Below.refl _ _⟩
  · clear hr0
    have heq : ∀ W : World, (binOp .eql 25 (.slice (some ad) l0.length c0) (.slice none 0 0)).run Try.prog W = .ok (.bool false) W := fun W => Lib.run_eql_slice_nil (P := Try.prog) W 25 5 (some ad) l0.length c0 0 0 Try.underlying25
    go_enter Try.func63, Try.ntmps63
    go_wp2_with (first | ((with_reducible refine gate_builtin (b := .append) (xs := #[.tmp 5, .tmp 6]) rfl ?_); at_builtin; refine Kd.R_append_rows (Kd.int .u8) (w0 := w) w.heap.size rfl (.tmp 5) (.tmp 6) 25 5 (.int .u8 0) 1 rfl Try.underlying25 info5 rfl (by decide) (by omega) _ [] l0 _ _ _ (fun _ => True) (fun _ => False) rfl rfl ?aO ?aR (fun _ _ h => h) (fun _ h => h.elim) (fun _ _ => trivial) ?aB ?aS ?aL ?_; (case aO => exact R_empty w w.heap.size (Nat.le_refl _)); (case aR => exact Kd.C_alloc HR.out _); (case aB => exact below_alloc (Below.refl _ w) _); (case aS => simp); (case aL => (simp; omega)); intro v3 w3 ho hb hg hat; clear hg hat; have HO3 := Aside0.mk ho; have HB3 := Aside0.mk hb; clear ho hb))
    go_ret
    exact ⟨_, rfl, by simpa using HO3.out, HB3.out⟩

-- AUX wr
/-- What a writer (h; z: it is nil) holds: its bytes, in blocks of S. -/
def Wr (w : World) (S : Nat → Prop) (z : Bool) (h : Value) (l : List Int) : Prop :=
  (z = true ∧ h = .pointer none ∧ l = []) ∨ (z = false ∧ ∃ p v, h = .pointer (some ⟨p, 0, none⟩) ∧ S p ∧ w.heap[p]? = some (.cells #[v] 73 (0, 0)) ∧ Kd.R (Kd.int .u8) 5 w 0 S v l)
/-- What is there behind bytes were put to it. -/
def app (z : Bool) (l bs : List Int) : List Int := if z = true then l else l ++ bs
theorem app_app (z : Bool) (l a b : List Int) : app z (app z l a) b = app z l (a ++ b) := by cases z <;> simp [app]
theorem app_nil (z : Bool) (l : List Int) : app z l [] = l := by cases z <;> simp [app]
theorem app_len (z : Bool) (l a : List Int) : (app z l a).length ≤ l.length + a.length := by cases z <;> simp [app]
theorem Wr.mono {w : World} {S T : Nat → Prop} {z : Bool} {h : Value} {l : List Int} (x : Wr w S z h l) (hS : ∀ i, S i → T i) : Wr w T z h l := by
  rcases x with x | ⟨hz, p, v, rfl, hp, hb, hr⟩
  · exact .inl x
  · exact .inr ⟨hz, p, v, rfl, hS _ hp, hb, Kd.R_mono hr hS⟩
theorem Wr.only {w w' : World} {S T : Nat → Prop} {z : Bool} {h : Value} {l : List Int} (x : Wr w S z h l) (k : Only w w' T) (hd : ∀ i, S i → ¬ T i) : Wr w' S z h l := by
  rcases x with x | ⟨hz, p, v, rfl, hp, hb, hr⟩
  · exact .inl x
  · exact .inr ⟨hz, p, v, rfl, hp, k.same_block hb (hd _ hp), R_only hr k hd⟩
theorem Wr.below {w w' : World} {S : Nat → Prop} {z : Bool} {h : Value} {l : List Int} (x : Wr w S z h l) (k : Below w.heap.size w w') : Wr w' S z h l := x.only (Only.of_below k (fun _ => False)) (fun _ _ h => h)
/-- What a writing call leaves. -/
structure WrTo (w w' : World) (S : Nat → Prop) (z : Bool) (h : Value) (l : List Int) : Prop where
  wr : Wr w' (Grow S w w') z h l
  only : Only w w' S
theorem WrTo.then_ {w w1 w2 : World} {S : Nat → Prop} {z : Bool} {h : Value} {l l2 : List Int} (x : WrTo w w1 S z h l) (y : WrTo w1 w2 (Grow S w w1) z h l2) : WrTo w w2 S z h l2 :=
  ⟨y.wr.mono (Grow.trans x.only.size y.only.size), x.only.trans y.only⟩
theorem WrTo.below {w w1 w2 : World} {S : Nat → Prop} {z : Bool} {h : Value} {l : List Int} (x : WrTo w w1 S z h l) (k : Below w1.heap.size w1 w2) : WrTo w w2 S z h l :=
  ⟨(x.wr.below k).mono (fun i hi => hi.imp id (fun h => ⟨h.1, by have := k.size; omega⟩)), x.only.below_ k⟩
theorem WrTo.refl {w : World} {S : Nat → Prop} {z : Bool} {h : Value} {l : List Int} (x : Wr w S z h l) : WrTo w w S z h l := ⟨x.mono (fun _ h => .inl h), Only.refl _ _⟩
theorem WrTo.late {w w1 w2 : World} {S : Nat → Prop} {z : Bool} {h : Value} {l : List Int} (k : Below w.heap.size w w1) (x : WrTo w1 w2 S z h l) : WrTo w w2 S z h l :=
  ⟨x.wr.mono (fun i hi => hi.imp id (fun h => ⟨by have := k.size; omega, h.2⟩)), (Only.of_below k S).same x.only⟩
theorem wr_put {w w1 : World} {S : Nat → Prop} {p : Nat} {v v1 : Value} {l l' : List Int} (hS : S p) (hblk : w.heap[p]? = some (.cells #[v] 73 (0, 0))) (h0 : Kd.R (Kd.int .u8) 5 w 0 S v l)
    (hO : Kd.R (Kd.int .u8) 5 w1 0 (fun k => S k ∨ w.heap.size ≤ k) v1 l') (hg : w.grownBy w1 v.ownBlock) :
    WrTo w (w1.setCell ⟨p, 0, none⟩ v1) S false (.pointer (some ⟨p, 0, none⟩)) l' := by
  have hne : some p ≠ v.ownBlock := fun e => by
    obtain ⟨inner, ho⟩ := Kd.R_own h0
    obtain ⟨cells, hc⟩ := own_typed ho p e.symm
    rw [hblk] at hc
    injection hc with hc
    injection hc with _ h2 _
    exact absurd h2 (by decide)
  have hb1 : w1.heap[p]? = some (.cells #[v] 73 (0, 0)) := (hg.block p (blk_size hblk) hne).trans hblk
  have hsz : (w1.setCell ⟨p, 0, none⟩ v1).heap.size = w1.heap.size := by simp [World.setCell]
  refine ⟨.inr ⟨rfl, p, v1, rfl, .inl hS, setCell_here hb1 0 v1, ?_⟩, (Only.of_grown hg (fun k hk => h0.1 k hk)).setCell (p := ⟨p, 0, none⟩) (.inl hS) v1⟩
  refine Kd.R_mono (Kd.R_bound (Kd.R_set hO hb1 (by decide) 0 v1)) (fun k hk => ?_)
  rw [hsz] at hk
  rcases hk.1 with h | h
  · exact .inl h
  · exact .inr ⟨h, by rw [hsz]; exact hk.2.2.1⟩

/-! ### slices_IndexFunc_byte_byte: function 70 -/
theorem nonzero_calls (x : Int) (w : World) : Calls Try.prog 69 #[.int .u8 x] w fun e w' => e = .returned (.bool (decide (x ≠ 0))) ∧ Drawn0 w w' := by
  by_cases h : x = 0
  · subst h
    go_enter Try.func69, Try.ntmps69
    go_wp2
    go_ret
    exact ⟨rfl, Drawn0.refl _⟩
  · have h2 : (x == 0) = false := beq_eq_false_iff_ne.2 h
    go_enter Try.func69, Try.ntmps69
    go_wp2
    go_ret
    exact ⟨by simp [h], Drawn0.refl _⟩
theorem slices_IndexFunc_byte_byte.calls (A0 : Option Addr) (c0 : Nat) (l0 : List Int) (w : World) (hr0 : Kd.C (Kd.int .u8) w A0 l0.length l0) :
    Calls Try.prog 70 #[.slice A0 l0.length c0, .func (.func 69) #[] #[]] w fun e w' => ∃ n : Int, e = .returned (.int .i64 n) ∧ decide (0 ≤ n) = l0.any (fun x => decide (x ≠ 0)) ∧ Drawn0 w w' := by
  have hn := hr0.2.1
  have HR := Aside0.mk hr0
  clear hr0
  go_enter Try.func70, Try.ntmps70
  go_wp2
  go_loopw [8] (fun v8 wr => ∃ k : Nat, k ≤ l0.length ∧ v8 = .int .i64 k ∧ Aside0 (∀ (j : Nat) (x : Int), j < k → l0[j]? = some x → x = 0) ∧ Aside0 (Drawn0 w wr)) (fun v8 _ => l0.length - (intOf v8).toNat)
  case atStart => exact ⟨0, by omega, rfl, ⟨fun j x hj => absurd hj (by omega)⟩, ⟨Drawn0.refl _⟩⟩
  case round =>
    obtain ⟨k, hk, rfl, HA, ⟨⟨nd, rfl⟩⟩⟩ := hrel
    by_cases hlt : k < l0.length
    · obtain ⟨ad, e, hx⟩ := Kd.at_int HR.out k (by omega) (by omega)
      subst e
      simp only [Int.toNat_natCast] at hx
      by_cases h3 : rd l0 k = 0
      · have HO := fun W => nonzero_calls (rd l0 k) W
        have HE := Aside0.mk h3
        rw [show decide (rd l0 k ≠ 0) = false by simp [h3]] at HO
        clear h3
        go_wp2_with fail
        refine (HO _).mono ?_
        rintro e w1 ⟨rfl, ⟨n2, rfl⟩⟩
        go_wp2
        refine ⟨⟨k + 1, by omega, by go_num, ⟨?_⟩, ⟨?_⟩⟩, by simp [intOf]; omega⟩
        · intro j x hj hx'
          by_cases hjk : j < k
          · exact HA.out j x hjk hx'
          · obtain rfl : j = k := by omega
            have : rd l0 (j : Int) = x := by simp [rd, hx']
            exact this.symm.trans HE.out
        · first | exact ⟨_, rfl⟩ | exact Drawn0.step (Drawn0.refl _)
      · have HO := fun W => nonzero_calls (rd l0 k) W
        have HE := Aside0.mk h3
        rw [show decide (rd l0 k ≠ 0) = true by simp [h3]] at HO
        clear h3
        go_wp2_with fail
        refine (HO _).mono ?_
        rintro e w1 ⟨rfl, ⟨n2, rfl⟩⟩
        go_wp2
        go_ret
        refine ⟨_, rfl, ?_, ⟨_, rfl⟩⟩
        have : (l0.any fun x => decide (x ≠ 0)) = true := List.any_eq_true.2 ⟨rd l0 k, by simp [rd, hlt], decide_eq_true HE.out⟩
        rw [this]
        exact decide_eq_true (by omega)
    · have hkk : k = l0.length := by omega
      go_wp2
      go_ret
      refine ⟨_, rfl, ?_, ⟨_, rfl⟩⟩
      have : (l0.any fun x => decide (x ≠ 0)) = false := by
        rw [List.any_eq_false]
        intro x hx
        obtain ⟨j, hj, e⟩ := List.getElem_of_mem hx
        have := HA.out j x (by omega) (by rw [List.getElem?_eq_getElem hj, e])
        simpa using this
      rw [this]
      exact decide_eq_false (by omega)

/-! ### slices_ContainsFunc_byte_byte: function 68 -/
theorem slices_ContainsFunc_byte_byte.calls (A0 : Option Addr) (c0 : Nat) (l0 : List Int) (w : World) (hr0 : Kd.C (Kd.int .u8) w A0 l0.length l0) :
    Calls Try.prog 68 #[.slice A0 l0.length c0, .func (.func 69) #[] #[]] w fun e w' => e = .returned (.bool (l0.any (fun x => decide (x ≠ 0)))) ∧ Drawn0 w w' := by
  have HC := fun W (h : Kd.C (Kd.int .u8) W A0 l0.length l0) => slices_IndexFunc_byte_byte.calls A0 c0 l0 W h
  have HR := Aside0.mk hr0
  clear hr0
  go_enter Try.func68, Try.ntmps68
  go_wp2_with fail
  refine (HC _ HR.out).mono ?_
  rintro e w1 ⟨n, rfl, hn, ⟨n2, rfl⟩⟩
  go_wp2
  go_ret
  exact ⟨by simp, ⟨_, rfl⟩⟩

/-! ### diff_record: function 59 -/
def zeroB (l : List Int) : Bool := !(l.any (fun x => decide (x ≠ 0)))
def recOf (a : Int) (b : List Int) : S61 := ⟨a, b.length, zeroB b, if zeroB b = true then [] else b⟩
theorem diff_record.calls (a : Int) (A0 : Option Addr) (c0 : Nat) (l0 : List Int) (w : World) (hr0 : Kd.C (Kd.int .u8) w A0 l0.length l0) (hc0 : l0.length ≤ c0) (hl : l0.length ≤ 1000000) :
    Calls Try.prog 59 #[.int .i64 a, .slice A0 l0.length c0] w fun e w' => ∃ v : Value, e = .returned (.agg #[.int .i64 a, .int .i64 l0.length, .bool (zeroB l0), v]) ∧ Kd.R (Kd.int .u8) 5 w' w.heap.size (fun _ => True) v (recOf a l0).f3 ∧ Below w.heap.size w w' := by
  have HC := fun W (h : Kd.C (Kd.int .u8) W A0 l0.length l0) => slices_ContainsFunc_byte_byte.calls A0 c0 l0 W h
  have HR := Aside0.mk hr0
  have HL := Aside0.mk hl
  clear hr0 hl
  have hz : zeroB l0 = !(l0.any (fun x => decide (x ≠ 0))) := rfl
  have HZ := Aside0.mk hz
  clear hz
  generalize (l0.any (fun x => decide (x ≠ 0))) = q at *
  cases q
  · go_enter Try.func59, Try.ntmps59
    go_wp2_with fail
    refine (HC _ (Kd.C_alloc HR.out _)).mono ?_
    rintro e w1 ⟨rfl, ⟨n2, rfl⟩⟩
    go_wp2
    refine bodyPost_ret (results_cell_row rfl _ _ w.heap.size 61 #[.int .i64 a, .int .i64 l0.length, .bool true, .slice none 0 0] (0, 0) _ rfl (blk_alloc (blk_put (blk_put (blk_put (blk_put (blk_drewN (blk_new w _) _) 0 _ rfl) 1 _ rfl) 2 _ rfl) 3 _ rfl) _) Try.underlying61 rfl (by kernel_rfl)) rfl ?_
    refine ⟨_, by rw [HZ.out]; rfl, ?_, below_alloc (below_set (below_set (below_set (below_set (pw_below_drewN (below_alloc (Below.refl _ _) _) _) (Nat.le_refl _)) (Nat.le_refl _)) (Nat.le_refl _)) (Nat.le_refl _)) _⟩
    have : (recOf a l0).f3 = [] := by unfold recOf; rw [HZ.out]; rfl
    rw [this]
    exact Kd.R_nil _ _ _ _ _
  · go_enter Try.func59, Try.ntmps59
    go_wp2_with fail
    refine (HC _ (Kd.C_alloc HR.out _)).mono ?_
    rintro e w1 ⟨rfl, ⟨n2, rfl⟩⟩
    go_wp2_with fail
    have hB1 : Below w.heap.size w (((w.alloc (.cells #[.int .i64 0, .int .i64 0, .bool false, .slice none 0 0] 61)).drewN n2).alloc (.cells #[.int .i64 a, .int .i64 l0.length, .bool false, .slice none 0 0] 61)) := below_alloc (pw_below_drewN (below_alloc (Below.refl _ _) _) _) _
    have hb0 : (((w.alloc (.cells #[.int .i64 0, .int .i64 0, .bool false, .slice none 0 0] 61)).drewN n2).alloc (.cells #[.int .i64 a, .int .i64 l0.length, .bool false, .slice none 0 0] 61)).heap[w.heap.size]? = some (.cells #[.int .i64 0, .int .i64 0, .bool false, .slice none 0 0] 61 (0, 0)) := blk_alloc (blk_drewN (blk_new w _) _) _
    have hb1 : (((w.alloc (.cells #[.int .i64 0, .int .i64 0, .bool false, .slice none 0 0] 61)).drewN n2).alloc (.cells #[.int .i64 a, .int .i64 l0.length, .bool false, .slice none 0 0] 61)).heap[w.heap.size + 1]? = some (.cells #[.int .i64 a, .int .i64 l0.length, .bool false, .slice none 0 0] 61 (0, 0)) := by
      have := blk_new ((w.alloc (.cells #[.int .i64 0, .int .i64 0, .bool false, .slice none 0 0] 61)).drewN n2) (.cells #[.int .i64 a, .int .i64 l0.length, .bool false, .slice none 0 0] 61)
      simpa using this
    have hCW := Kd.C_below HR.out hB1
    generalize (((w.alloc (.cells #[.int .i64 0, .int .i64 0, .bool false, .slice none 0 0] 61)).drewN n2).alloc (.cells #[.int .i64 a, .int .i64 l0.length, .bool false, .slice none 0 0] 61)) = W at *
    refine (slices_Clone_byte_byte.own A0 c0 l0 W hCW (by have := HL.out; omega)).mono ?_
    rintro e w2 ⟨v, rfl, hv, hb⟩
    have BK0 := Aside0.mk (blk_below hb0 hb)
    have BK1 := Aside0.mk (blk_below hb1 hb)
    have HB2 := Aside0.mk (below_step hB1 hb)
    have hbs := hB1.size
    have HV := Aside0.mk (Kd.R_lower hv hB1.size)
    have hne0 : ∀ k, v.ownBlock = some k → k ≠ w.heap.size ∧ k ≠ w.heap.size + 1 := fun k hk => by
      have h1 := Kd.R_base hv k hk
      have h2 := blk_lt hb0
      have h3 := blk_lt hb1
      omega
    have HNE := Aside0.mk hne0
    clear hv hb hB1 hb0 hb1 hCW hne0 hbs
    have hz0 : w2.cell? ⟨w.heap.size + 1, 0, none⟩ = some (.int .i64 a) := (blk_cell BK1.out 0).trans rfl
    have hz1 : w2.cell? ⟨w.heap.size + 1, 1, none⟩ = some (.int .i64 l0.length) := (blk_cell BK1.out 1).trans rfl
    have hz2 : w2.cell? ⟨w.heap.size + 1, 2, none⟩ = some (.bool false) := (blk_cell BK1.out 2).trans rfl
    have hz3 : w2.cell? ⟨w.heap.size + 1, 3, none⟩ = some (.slice none 0 0) := (blk_cell BK1.out 3).trans rfl
    have hf3 : w2.frozen? ⟨w.heap.size + 1, 3, none⟩ = false := blk_frozen BK1.out 3
    have hy0 : w2.cell? ⟨w.heap.size, 0, none⟩ = some (.int .i64 0) := (blk_cell BK0.out 0).trans rfl
    have hy1 : w2.cell? ⟨w.heap.size, 1, none⟩ = some (.int .i64 0) := (blk_cell BK0.out 1).trans rfl
    have hy2 : w2.cell? ⟨w.heap.size, 2, none⟩ = some (.bool false) := (blk_cell BK0.out 2).trans rfl
    have hy3 : w2.cell? ⟨w.heap.size, 3, none⟩ = some (.slice none 0 0) := (blk_cell BK0.out 3).trans rfl
    have hg0 : w2.frozen? ⟨w.heap.size, 0, none⟩ = false := blk_frozen BK0.out 0
    have hg1 : w2.frozen? ⟨w.heap.size, 1, none⟩ = false := blk_frozen BK0.out 1
    have hg2 : w2.frozen? ⟨w.heap.size, 2, none⟩ = false := blk_frozen BK0.out 2
    have hg3 : w2.frozen? ⟨w.heap.size, 3, none⟩ = false := blk_frozen BK0.out 3
    obtain ⟨A1, c1, rfl, hl1⟩ := Kd.R_reads HV.out
    go_wp2
    refine bodyPost_ret (results_cell_row rfl _ _ w.heap.size 61 #[.int .i64 a, .int .i64 l0.length, .bool false, .slice A1 l0.length c1] (0, 0) _ rfl (blk_put (blk_put (blk_put (blk_put (blk_far BK0.out (by simp) _) 0 _ rfl) 1 _ rfl) 2 _ rfl) 3 _ rfl) Try.underlying61 rfl (by kernel_rfl)) rfl ?_
    refine ⟨_, by rw [HZ.out]; rfl, ?_, below_set (below_set (below_set (below_set (below_set HB2.out (by omega)) (Nat.le_refl _)) (Nat.le_refl _)) (Nat.le_refl _)) (Nat.le_refl _)⟩
    have : (recOf a l0).f3 = l0 := by unfold recOf; rw [HZ.out]; rfl
    rw [this]
    have hn := HNE.out
    refine Kd.R_mono (Kd.R_far (Kd.R_far (Kd.R_far (Kd.R_far (Kd.R_far (ok := fun k => k ≠ w.heap.size ∧ k ≠ w.heap.size + 1) ⟨fun k hk => hn k hk, HV.out.2⟩ (fun k hk => hk.2) _) (fun k hk => hk.1) _) (fun k hk => hk.1) _) (fun k hk => hk.1) _) (fun k hk => hk.1) _) (fun _ _ => trivial)

/-! ### laminanum_Copy: function 10 -/
/-- What a copy with marks is: its block holds the bytes and the two marks. -/
theorem laminanum_Copy.calls (A0 : Option Addr) (c0 : Nat) (l0 : List Int) (w : World) (hr0 : Kd.C (Kd.int .u8) w A0 l0.length l0) (hn : l0.length ≤ 900000) :
    Calls Try.prog 10 #[.slice A0 l0.length c0] w fun e w' => ∃ (g cap : Nat), e = .returned (.slice (some ⟨g, 0, none⟩) l0.length cap) ∧ w.heap.size ≤ g ∧
      Kd.R (Kd.int .u8) 5 w' w.heap.size (fun _ => True) (.slice (some ⟨g, 0, none⟩) (l0 ++ [165, 90]).length cap) (l0 ++ [165, 90]) ∧ Below w.heap.size w w' := by
  have HR := Aside0.mk hr0
  clear hr0
  have hmk := fun W : World => make_bytes W (l0.length + 2) (by omega)
  simp only [Int.natCast_add, Int.cast_ofNat_Int] at hmk
  go_enter Try.func10, Try.ntmps10
  go_wp2_with (first | ((with_reducible refine gate_builtin (b := .append) (xs := #[.tmp 6, .tmp 7]) rfl ?_); at_builtin; refine Kd.R_append_rows (Kd.int .u8) (w0 := w) w.heap.size rfl (.tmp 6) (.tmp 7) 25 5 (.int .u8 0) 1 rfl Try.underlying25 info5 rfl (by decide) (by omega) _ [] l0 _ _ _ (fun _ => True) (fun _ => False) rfl rfl ?aO ?aR (fun _ _ h => h) (fun _ h => h.elim) (fun _ _ => trivial) ?aB ?aS ?aL ?_; (case aO => exact R_made w (l0.length + 2) (by omega)); (case aR => exact Kd.C_alloc HR.out _); (case aB => exact below_alloc (Below.refl _ _) _); (case aS => simp); (case aL => (simp; omega)); intro v1 w1 ho hb hg hat; clear hg hat; have HO := Aside0.mk ho; have HB := Aside0.mk hb; clear ho hb) | ((with_reducible refine gate_builtin (b := .append) (xs := #[.tmp 8, .tmp 9]) rfl ?_); at_builtin; refine Kd.R_append_rows (Kd.int .u8) (w0 := w) w.heap.size rfl (.tmp 8) (.tmp 9) 25 5 (.int .u8 0) 1 rfl Try.underlying25 info5 rfl (by decide) (by omega) _ ([] ++ l0) [165, 90] _ _ _ (fun _ => True) (fun _ => False) rfl rfl ?bO ?bR (fun _ _ h => h) (fun _ h => h.elim) (fun _ _ => trivial) ?bB ?bS ?bL ?_; (case bO => exact Kd.R_alloc HO.out _); (case bR => exact C_two w1 165 90); (case bB => exact below_alloc HB.out _); (case bS => (have := HB.out.size; simp; omega)); (case bL => (simp; omega)); intro v2 w2 ho hb hg hat; clear hg hat; have HB2 := Aside0.mk hb; clear hb; obtain ⟨g, cap, hv, hgb, hgl, -⟩ := Kd.R_form ho (by simp); subst hv; have HO2 := Aside0.mk ho; have hcap : l0.length ≤ cap := (by have := (Kd.R_reads' ho).2.1; simp at this; omega); clear ho))
  go_ret
  exact ⟨g, cap, rfl, hgb, by simpa using HO2.out, HB2.out⟩

end Go.Proofs.Ytdehifinipmmcaa.Hp
