/- Contracts of functions of the given program, and what they lean on: written by this session's own program hprint.py, which lays hand texts into the kit's printer. -/
import Derived.Test.YtibpbihcbgcedaaHp0
import Derived.Test.YtibpbihcbgcedaaHpaC
import Derived.Test.YtibpbihcbgcedaaHpaM
namespace Go.Proofs.Ytibpbihcbgcedaa.Hp
open Go.RowKit Go.Proofs.YtibpbihcbgcedaaW.PrintWords Go.Proofs.YtibpbihcbgcedaaW.PrintLast Go.Proofs.YtibpbihcbgcedaaW.PrintMore
attribute [local go_sem] max2_int min2_int max_two min_two max_three min_three max_four min_four   -- for this text's walks alone
set_option linter.unusedVariables false
set_option linter.unusedSimpArgs false

/-! ### slices_Clone_byte_byte: function 35 -/
/-- A copy of its own. -/
theorem slices_Clone_byte_byte.own (A0 : Option Addr) (c0 : Nat) (l0 : List Int) (w : World) (hr0 : Kd.C (Kd.int .u8) w A0 l0.length l0) (hp : l0.length < 140737488355328) :
    Calls Try.prog 35 #[.slice A0 l0.length c0] w fun e w' => ∃ v0_ : Value, e = .returned (v0_) ∧ Kd.R (Kd.int .u8) 5 w' w.heap.size (fun _ => True) v0_ l0 ∧ Below w.heap.size w w' := by
  have HR := Aside0.mk hr0
  rcases A0 with _ | ad
  · have hl : l0 = [] := by
      rcases l0 with _ | ⟨x, l⟩
      · rfl
      · obtain ⟨_, _, hc⟩ := hr0
        obtain ⟨ad, e, _⟩ := hc (by simp)
        cases e
    subst hl
    clear hr0 HR
    have heq : ∀ W : World, (binOp .eql 26 (.slice none 0 c0) (.slice none 0 0)).run Try.prog W = .ok (.bool true) W := fun W => Lib.run_eql_slice_nil (P := Try.prog) W 26 5 none 0 c0 0 0 Try.underlying26
    simp only [List.length_nil] at hp ⊢
    go_enter Try.func35, Try.ntmps35
    go_wp2
    go_ret
    exact ⟨_, rfl, Kd.R_nil _ _ _ _ _, Below.refl _ _⟩
  · clear hr0
    have heq : ∀ W : World, (binOp .eql 26 (.slice (some ad) l0.length c0) (.slice none 0 0)).run Try.prog W = .ok (.bool false) W := fun W => Lib.run_eql_slice_nil (P := Try.prog) W 26 5 (some ad) l0.length c0 0 0 Try.underlying26
    go_enter Try.func35, Try.ntmps35
    go_wp2_with (first | ((with_reducible refine gate_builtin (b := .append) (xs := #[.tmp 5, .tmp 6]) rfl ?_); at_builtin; refine Kd.R_append_rows (Kd.int .u8) (w0 := w) w.heap.size rfl (.tmp 5) (.tmp 6) 26 5 (.int .u8 0) 1 rfl Try.underlying26 info5 rfl (by decide) (by omega) _ [] l0 _ _ _ (fun _ => True) (fun _ => False) rfl rfl ?aO ?aR (fun _ _ h => h) (fun _ h => h.elim) (fun _ _ => trivial) ?aB ?aS ?aL ?_; (case aO => exact R_empty w w.heap.size (Nat.le_refl _)); (case aR => exact Kd.C_alloc HR.out _); (case aB => exact below_alloc (Below.refl _ w) _); (case aS => simp); (case aL => (simp; omega)); intro v3 w3 ho hb hg hat; clear hg hat; have HO3 := Aside0.mk ho; have HB3 := Aside0.mk hb; clear ho hb))
    go_ret
    exact ⟨_, rfl, by simpa using HO3.out, HB3.out⟩

-- AUX wr
/-- What a writer (h; z: it is nil) holds: its bytes, in blocks of S. -/
def Wr (w : World) (S : Nat → Prop) (z : Bool) (h : Value) (l : List Int) : Prop :=
  (z = true ∧ h = .pointer none ∧ l = []) ∨ (z = false ∧ ∃ p v, h = .pointer (some ⟨p, 0, none⟩) ∧ S p ∧ w.heap[p]? = some (.cells #[v] 28 (0, 0)) ∧ Kd.R (Kd.int .u8) 5 w 0 S v l)
/-- What is there behind bytes were put to it. -/
def app (z : Bool) (l bs : List Int) : List Int := if z = true then l else l ++ bs
theorem app_app (z : Bool) (l a b : List Int) : app z (app z l a) b = app z l (a ++ b) := by cases z <;> simp [app]
theorem app_nil (z : Bool) (l : List Int) : app z l [] = l := by cases z <;> simp [app]
theorem app_len (z : Bool) (l a : List Int) : (app z l a).length ≤ l.length + a.length := by cases z <;> simp [app]
theorem Wr.mono {w : World} {S T : Nat → Prop} {z : Bool} {h : Value} {l : List Int} (x : Wr w S z h l) (hS : ∀ i, S i → T i) : Wr w T z h l := by
  rcases x with x | ⟨hz, p, v, rfl, hp, hb, hr⟩
  · exact .inl x
  · exact .inr ⟨hz, p, v, rfl, hS _ hp, hb, Kd.R_mono hr hS⟩
theorem Wr.only {w w' : World} {S T : Nat → Prop} {z : Bool} {h : Value} {l : List Int} (x : Wr w S z h l) (k : Only w w' T) (hd : ∀ i, S i → ¬ T i) : Wr w' S z h l := by
  rcases x with x | ⟨hz, p, v, rfl, hp, hb, hr⟩
  · exact .inl x
  · exact .inr ⟨hz, p, v, rfl, hp, k.same_block hb (hd _ hp), R_only hr k hd⟩
theorem Wr.below {w w' : World} {S : Nat → Prop} {z : Bool} {h : Value} {l : List Int} (x : Wr w S z h l) (k : Below w.heap.size w w') : Wr w' S z h l := x.only (Only.of_below k (fun _ => False)) (fun _ _ h => h)
/-- What a writing call leaves. -/
structure WrTo (w w' : World) (S : Nat → Prop) (z : Bool) (h : Value) (l : List Int) : Prop where
  wr : Wr w' (Grow S w w') z h l
  only : Only w w' S
theorem WrTo.then_ {w w1 w2 : World} {S : Nat → Prop} {z : Bool} {h : Value} {l l2 : List Int} (x : WrTo w w1 S z h l) (y : WrTo w1 w2 (Grow S w w1) z h l2) : WrTo w w2 S z h l2 :=
  ⟨y.wr.mono (Grow.trans x.only.size y.only.size), x.only.trans y.only⟩
theorem WrTo.below {w w1 w2 : World} {S : Nat → Prop} {z : Bool} {h : Value} {l : List Int} (x : WrTo w w1 S z h l) (k : Below w1.heap.size w1 w2) : WrTo w w2 S z h l :=
  ⟨(x.wr.below k).mono (fun i hi => hi.imp id (fun h => ⟨h.1, by have := k.size; omega⟩)), x.only.below_ k⟩
theorem WrTo.refl {w : World} {S : Nat → Prop} {z : Bool} {h : Value} {l : List Int} (x : Wr w S z h l) : WrTo w w S z h l := ⟨x.mono (fun _ h => .inl h), Only.refl _ _⟩
theorem WrTo.late {w w1 w2 : World} {S : Nat → Prop} {z : Bool} {h : Value} {l : List Int} (k : Below w.heap.size w w1) (x : WrTo w1 w2 S z h l) : WrTo w w2 S z h l :=
  ⟨x.wr.mono (fun i hi => hi.imp id (fun h => ⟨by have := k.size; omega, h.2⟩)), (Only.of_below k S).same x.only⟩
theorem wr_put {w w1 : World} {S : Nat → Prop} {p : Nat} {v v1 : Value} {l l' : List Int} (hS : S p) (hblk : w.heap[p]? = some (.cells #[v] 28 (0, 0))) (h0 : Kd.R (Kd.int .u8) 5 w 0 S v l)
    (hO : Kd.R (Kd.int .u8) 5 w1 0 (fun k => S k ∨ w.heap.size ≤ k) v1 l') (hg : w.grownBy w1 v.ownBlock) :
    WrTo w (w1.setCell ⟨p, 0, none⟩ v1) S false (.pointer (some ⟨p, 0, none⟩)) l' := by
  have hne : some p ≠ v.ownBlock := fun e => by
    obtain ⟨inner, ho⟩ := Kd.R_own h0
    obtain ⟨cells, hc⟩ := own_typed ho p e.symm
    rw [hblk] at hc
    injection hc with hc
    injection hc with _ h2 _
    exact absurd h2 (by decide)
  have hb1 : w1.heap[p]? = some (.cells #[v] 28 (0, 0)) := (hg.block p (blk_size hblk) hne).trans hblk
  have hsz : (w1.setCell ⟨p, 0, none⟩ v1).heap.size = w1.heap.size := by simp [World.setCell]
  refine ⟨.inr ⟨rfl, p, v1, rfl, .inl hS, setCell_here hb1 0 v1, ?_⟩, (Only.of_grown hg (fun k hk => h0.1 k hk)).setCell (p := ⟨p, 0, none⟩) (.inl hS) v1⟩
  refine Kd.R_mono (Kd.R_bound (Kd.R_set hO hb1 (by decide) 0 v1)) (fun k hk => ?_)
  rw [hsz] at hk
  rcases hk.1 with h | h
  · exact .inl h
  · exact .inr ⟨h, by rw [hsz]; exact hk.2.2.1⟩

end Go.Proofs.Ytibpbihcbgcedaa.Hp
