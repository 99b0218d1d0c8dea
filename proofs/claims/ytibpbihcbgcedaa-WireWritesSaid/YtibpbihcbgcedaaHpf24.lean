/- Contracts of functions of the given program, and what they lean on: written by this session's own program hprint.py, which lays hand texts into the kit's printer. -/
import Derived.Test.YtibpbihcbgcedaaHp0
import Derived.Test.YtibpbihcbgcedaaHpaM
import Derived.Test.YtibpbihcbgcedaaHpf15
import Derived.Test.YtibpbihcbgcedaaHpf46
import Derived.Test.YtibpbihcbgcedaaHpf45
namespace Go.Proofs.Ytibpbihcbgcedaa.Hp
open Go.RowKit Go.Proofs.YtibpbihcbgcedaaW.PrintWords Go.Proofs.YtibpbihcbgcedaaW.PrintLast Go.Proofs.YtibpbihcbgcedaaW.PrintMore
attribute [local go_sem] max2_int min2_int max_two min_two max_three min_three max_four min_four   -- for this text's walks alone
set_option linter.unusedVariables false
set_option linter.unusedSimpArgs false

/-! ### wire_Reader_Num: function 24 -/
theorem wire_Reader_Num.calls (S : Nat → Prop) (h : Value) (l : List Int) (bad : Bool) (w : World) (hr : Rd w S h l bad) :
    Calls Try.prog 24 #[h] w fun e w' => e = .returned (.int .i64 (numS l bad).1) ∧ RdTo w w' S h (numS l bad).2.1 (numS l bad).2.2 := by
  rcases htk : tkS 8 l bad with _ | ⟨b, r⟩
  · have hb : numS l bad = (0, [], true) := by unfold numS; rw [htk]
    have HT := Aside0.mk (fun W (q : Rd W S h l bad) => wire_Reader_take.no S h l bad 8 W q htk)
    rw [hb]
    have HR := Aside0.mk hr
    clear htk hb hr
    go_enter Try.func24, Try.ntmps24
    go_wp2_with fail
    refine (HT.out _ HR.out).mono ?_
    rintro e w1 ⟨rfl, hx⟩
    go_wp2
    go_ret
    exact ⟨rfl, hx⟩
  · have hb : numS l bad = (unL b, r, false) := by unfold numS; rw [htk]
    have HT := Aside0.mk (fun W (q : Rd W S h l bad) => take_yes S h l bad 8 b r W q htk)
    have hbb := hr.byt
    have hbl : b.length = 8 ∧ ∀ x ∈ b, 0 ≤ x ∧ x < 256 := by
      obtain ⟨_, q1, q2, rfl, rfl⟩ := tkS_some htk
      refine ⟨by rw [List.length_take]; omega, fun x hx => hbb x (List.mem_of_mem_take hx)⟩
    rw [hb]
    have HBL := Aside0.mk hbl
    have HR := Aside0.mk hr
    have hb0 : b.length ≤ 8 := by omega
    have hb1 : 8 ≤ b.length := by omega
    clear htk hb hr hbl hbb
    go_enter Try.func24, Try.ntmps24
    go_wp2_with fail
    refine (HT.out _ HR.out).mono ?_
    rintro e w1 ⟨A, rfl, hx⟩
    have HX := Aside0.mk hx
    obtain ⟨ad, e, hc⟩ := C_cells hx.row.row (by omega)
    subst e
    have HC := Aside0.mk hc
    clear hc hx
    go_wp2
    go_loop [5, 17, 6, 7] (fun v5 v17 _ _ => ∃ k : Nat, k ≤ b.length ∧ v17 = .int .i64 k ∧ v5 = .int .i64 (accN b k)) (fun _ v17 _ _ => b.length - (intOf v17).toNat)
    case atStart => exact ⟨0, by omega, rfl, by rw [accN_zero]⟩
    case round =>
      obtain ⟨k, hk, rfl, rfl⟩ := hrel
      by_cases hlt : k < b.length
      · have hx := HC.out k hlt
        obtain ⟨r0, r1⟩ := rd_bd HBL.out.2 k hlt
        have hs := accN_step b HBL.out.2 k (by omega) hlt
        have HS := Aside0.mk hs
        have q1 : IntKind.i64.wrap (8 * (k : Int)) = 8 * (k : Int) := IntWalk.i64_in _ (by omega)
        have q2 : (8 * (k : Int)).toNat = 8 * k := by omega
        have q3 : (0 : Int) ≤ 8 * (k : Int) := by omega
        clear hs
        go_wp2
        refine ⟨⟨k + 1, by omega, by go_num, ?_⟩, by simp [intOf]; omega⟩
        rw [← HS.out]
      · obtain rfl : k = b.length := by omega
        go_wp2
        go_ret
        have e8 := HBL.out.1
        rw [e8]
        exact ⟨rfl, HX.out.rdto⟩

-- AUX rdlt
theorem Rd.lt {w : World} {S : Nat → Prop} {h : Value} {l : List Int} {bad : Bool} (x : Rd w S h l bad) : ∀ i, Pt h i → i < w.heap.size := by
  rintro i hi
  rcases x with ⟨rfl, _, _⟩ | ⟨p, A, c, rfl, x, y⟩
  · cases hi
  · have : p = i := by simpa [Pt] using hi
    subst this
    exact blk_size x.str
theorem numS_len (l : List Int) (bad : Bool) : (numS l bad).2.1.length ≤ l.length := by
  unfold numS
  split
  · rename_i b r h
    obtain ⟨_, _, _, _, rfl⟩ := tkS_some h
    simp
  · simp

end Go.Proofs.Ytibpbihcbgcedaa.Hp
