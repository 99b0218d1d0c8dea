/- Contracts of functions of the given program, and what they lean on: written by this session's own program hprint.py, which lays hand texts into the kit's printer. -/
import Derived.Test.YtibpbihcbgcedaaHp0
import Derived.Test.YtibpbihcbgcedaaHpaM
import Derived.Test.YtibpbihcbgcedaaHpf35
import Derived.Test.YtibpbihcbgcedaaHpf47
import Derived.Test.YtibpbihcbgcedaaHpf26
namespace Go.Proofs.Ytibpbihcbgcedaa.Hp
open Go.RowKit Go.Proofs.YtibpbihcbgcedaaW.PrintWords Go.Proofs.YtibpbihcbgcedaaW.PrintLast Go.Proofs.YtibpbihcbgcedaaW.PrintMore
attribute [local go_sem] max2_int min2_int max_two min_two max_three min_three max_four min_four   -- for this text's walks alone
set_option linter.unusedVariables false
set_option linter.unusedSimpArgs false

/-! ### wire_sized_string: function 49 -/
theorem wire_sized_string.calls (S : Nat → Prop) (z : Bool) (h : Value) (l : List Int) (s : ByteArray) (w : World) (hw : Wr w S z h l) (hl : l.length + 8 + s.size ≤ 140737488355328) :
    Calls Try.prog 49 #[h, .string s] w fun e w' => e = .returned (.tuple #[]) ∧ WrTo w w' S z h (app z l (numL s.size ++ bytesOf s)) := by
  have HW := Aside0.mk hw
  have kb := fun W => print_bytes (P := Try.prog) 9 26 5 Try.underlying9 Try.underlying26 Try.underlying5 s W
  have hal := app_len z l (numL s.size)
  rw [numL_len] at hal
  have HAL := Aside0.mk hal
  have hbl := bytesOf_length s
  have HBL := Aside0.mk hbl
  clear hw hal hbl
  go_enter Try.func49, Try.ntmps49
  go_wp2_with fail
  refine (wire_Writer_Num.calls S z h l s.size _ HW.out (by omega) (by omega) (by omega)).mono ?_
  rintro e w1 ⟨rfl, hx⟩
  have HX := Aside0.mk hx
  clear hx
  go_wp2_with fail
  have hbb := bytes_below (Below.refl w1.heap.size w1) (Nat.le_refl _) 5 s
  have hrd : Kd.C (Kd.int .u8) (Lib.bytesWorld w1 5 s) (some ⟨w1.heap.size, 0, none⟩) (bytesOf s).length (bytesOf s) := by
    obtain ⟨q1, q2, q3⟩ := bytes_reads w1 5 s (by omega)
    rw [HBL.out]
    refine ⟨q1, q2, fun hp => ?_⟩
    obtain ⟨ad, e, hc⟩ := q3 hp
    have := C_mk (k := .u8) (w := Lib.bytesWorld w1 5 s) (A := some ⟨w1.heap.size, 0, none⟩) (l := bytesOf s) (by omega) (fun _ => ⟨ad, e, fun j hj => by rw [hc j (by omega)]; simp [rd]⟩)
    exact this.2.2 (by omega)
  have ha := wire_Writer_add.calls _ z h _ (some ⟨w1.heap.size, 0, none⟩) (grownCap w1 s.size 0 5) (bytesOf s) _ (HX.out.wr.below hbb) hrd (by have := HAL.out; have := HBL.out; omega)
  rw [HBL.out] at ha
  refine ha.mono ?_
  rintro e w2 ⟨rfl, hy⟩
  go_wp2
  go_end0
  rw [app_app] at hy
  exact ⟨rfl, HX.out.then_ (hy.late hbb)⟩

-- AUX numsL
def numsL (ns : List Int) : List Int := ns.flatMap numL
theorem numsL_len (ns : List Int) : (numsL ns).length = 8 * ns.length := by
  induction ns with
  | nil => rfl
  | cons a t ih => simp only [numsL, List.flatMap_cons, List.length_append, numL_len, List.length_cons]; have := ih; unfold numsL at this; omega
theorem numsL_snoc (ns : List Int) (k : Nat) (h : k < ns.length) : numsL (ns.take (k + 1)) = numsL (ns.take k) ++ numL (rd ns k) := by
  unfold numsL
  rw [List.take_succ_eq_append_getElem h, List.flatMap_append]
  simp [rd, h]

end Go.Proofs.Ytibpbihcbgcedaa.Hp
