/- Contracts of functions of the given program, and what they lean on: written by this session's own program, out of hand texts laid into the kit's printer. -/
import Derived.OpenShut
import Derived.Test.YtgnpmephgdghhaaHp0
import Derived.Test.YtgnpmephgdghhaaHg1
import Derived.Test.YtgnpmephgdghhaaHg3
namespace Go.Proofs.Ytgnpmephgdghhaa.Hp
open Go.RowKit Go.Proofs.YtgnpmephgdghhaaW.PrintWords Go.Proofs.YtgnpmephgdghhaaW.PrintLast Go.Proofs.YtgnpmephgdghhaaW.PrintMore
attribute [local go_sem] max2_int min2_int max_two min_two max_three min_three max_four min_four   -- for this text's walks alone
set_option linter.unusedVariables false
set_option linter.unusedSimpArgs false

/-! ### laminalaw04_BoxIs: function 4 -/
/-- What is asked: a sector and three numbers, as they lie. -/
def askA (s : List Int) (k g n : Int) : Array Value := (s.map (Value.int .u8) ++ [Value.int .i64 k, Value.int .i64 g, Value.int .i64 n]).toArray
theorem askA_sec {s : List Int} (k g n : Int) (hs : s.length = 128) (j : Nat) (v : Value) (h : (s.map (Value.int .u8))[j]? = some v) : (askA s k g n)[j]? = some v := by
  have hj := (List.getElem?_eq_some_iff.1 h).1
  unfold askA
  rw [List.getElem?_toArray, List.getElem?_append_left hj]
  exact h
theorem askA_at {s : List Int} (k g n : Int) (hs : s.length = 128) : (askA s k g n)[128]? = some (.int .i64 k) ∧ (askA s k g n)[129]? = some (.int .i64 g) ∧ (askA s k g n)[130]? = some (.int .i64 n) := by
  have hm : (s.map (Value.int .u8)).length = 128 := by simpa using hs
  unfold askA
  refine ⟨?_, ?_, ?_⟩ <;> (rw [List.getElem?_toArray, List.getElem?_append_right (by omega), hm]; rfl)
theorem run_load_part {P : Program} (w : World) (p : Addr) (ty : TypeId) (cs : List Value) (d : TypeDesc) (hc : ∀ j v, cs[j]? = some v → w.cell? (p.add j) = some v)
    (hu : P.underlying ty = some d) (hd : (match d with | .struct _ | .array _ _ => true | _ => false) = true) (hi : (P.info? ty).map (·.size) = some cs.length) :
    (loadVar ty p).run P w = .ok (.agg cs.toArray) w := by
  have hl : (loadCells p cs.length).run P w = .ok cs.toArray w := run_loadCells_list (P := P) w p cs hc
  cases hq : P.info? ty with
  | none => simp [hq] at hi
  | some i =>
    have hs : i.size = cs.length := by simpa [hq] using hi
    have hagg : (isAgg ty).run P w = .ok true w := by
      unfold isAgg
      rw [Sem.run_bind, run_underlying hu w]
      cases d <;> simp_all
    simp [loadVar, Sem.run_bind, hagg, sizeOf, typeInfo, hq, hs, hl]
theorem wpList_load_part {P : Program} {ops : Array Oper} {rest : List Oper} {o : Oper} {a : Act} {w : World} {Q : Exit → Act → World → Prop} (hgd : o.guard = none) (ty : TypeId) (x : Operand) (ho : o.op = .load ty x)
    (p : Addr) (hx : a.eval x = .pointer (some p)) (cs : List Value) (d : TypeDesc) (hc : ∀ j v, cs[j]? = some v → w.cell? (p.add j) = some v)
    (hu : P.underlying ty = some d) (hd : (match d with | .struct _ | .array _ _ => true | _ => false) = true) (hi : (P.info? ty).map (·.size) = some cs.length)
    (h : wpList P ops Q rest (a.put o.dst (.agg cs.toArray)) w) : wpList P ops Q (o :: rest) a w := by
  have hw : Region.wanted o (yielded ops a.tmps) = true := by unfold Region.wanted; rw [hgd]
  unfold wpList
  rw [if_pos hw]
  refine .inl ?_
  unfold Oper.wp execOp
  simp only [ho, hx, Instr.loadAt, Instr.sureAddr, Sem.run_bind, Sem.run_pure, Result.andThen_ok, run_load_part w p ty cs d hc hu hd hi]
  exact h
/-- What is read of a value of that type. -/
theorem opens_asked {H : Type} {enc : TypeId × Value → H} {w : World} {base : Nat} {spare : Nat → Bool} {held : Bool} {fuel : Nat} {cs : List Value} {x : DataW H × List MemPlace}
    (h : DataW.trod enc Try.prog w base spare held fuel 46 cs = some x) : ∃ (s : List Int) (k g n : Int), cs = s.map (Value.int .u8) ++ [Value.int .i64 k, Value.int .i64 g, Value.int .i64 n] ∧ s.length = 128 ∧ ∀ y ∈ s, 0 ≤ y ∧ y < 256 := by
  obtain ⟨xs, m, _, _, hl, hxl, hf⟩ := DataW.trod_struct Try.underlying46 h
  have c0 : Try.prog.cellsOf 46 = 131 := by kernel_rfl
  have c1 : Try.prog.cellsOf 28 = 128 := by kernel_rfl
  have c2 : Try.prog.cellsOf 3 = 1 := by kernel_rfl
  have c3 : Try.prog.cellsOf 5 = 1 := by kernel_rfl
  rw [c0] at hl
  have h0 : DataW.trod enc Try.prog w base spare held m 28 ((cs.drop 0).take (Try.prog.cellsOf 28)) = xs[0]? := hf 0 _ rfl
  have h1 : DataW.trod enc Try.prog w base spare held m 3 ((cs.drop 128).take (Try.prog.cellsOf 3)) = xs[1]? := hf 1 _ rfl
  have h2 : DataW.trod enc Try.prog w base spare held m 3 ((cs.drop 129).take (Try.prog.cellsOf 3)) = xs[2]? := hf 2 _ rfl
  have h3 : DataW.trod enc Try.prog w base spare held m 3 ((cs.drop 130).take (Try.prog.cellsOf 3)) = xs[3]? := hf 3 _ rfl
  have hxl' : xs.length = 4 := hxl
  rw [c1] at h0
  rw [c2] at h1 h2 h3
  rw [List.getElem?_eq_getElem (by omega)] at h0 h1 h2 h3
  obtain ⟨k, e1, _, _⟩ := DataW.trod_int Try.underlying3 h1
  obtain ⟨g, e2, _, _⟩ := DataW.trod_int Try.underlying3 h2
  obtain ⟨n, e3, _, _⟩ := DataW.trod_int Try.underlying3 h3
  obtain ⟨ys, m2, _, _, hl2, hyl, hg⟩ := DataW.trod_array Try.underlying28 h0
  simp only [c3] at hg
  have each : ∀ i, i < 128 → ∃ y : Int, (cs.drop i).take 1 = [Value.int .u8 y] ∧ 0 ≤ y ∧ y < 256 := by
    intro i hi
    have q := hg i hi
    rw [List.getElem?_eq_getElem (by omega)] at q
    obtain ⟨y, e, _, hw⟩ := DataW.trod_int Try.underlying5 q
    refine ⟨y, ?_, wf_u8 hw⟩
    rw [← e]
    simp only [List.drop_zero, Nat.mul_one]
    rw [List.drop_take, List.take_take]
    congr 1
    omega
  have take : ∀ m, m ≤ 128 → ∃ s : List Int, cs.take m = s.map (Value.int .u8) ∧ s.length = m ∧ ∀ y ∈ s, 0 ≤ y ∧ y < 256 := by
    intro m
    induction m with
    | zero => exact fun _ => ⟨[], rfl, rfl, fun y hy => by cases hy⟩
    | succ m ih =>
      intro hm
      obtain ⟨s, h1, h2, h3⟩ := ih (by omega)
      obtain ⟨y, hy, hb⟩ := each m (by omega)
      refine ⟨s ++ [y], ?_, by simp [h2], fun z hz => ?_⟩
      · rw [List.take_add, h1, hy]
        simp
      · rcases List.mem_append.1 hz with h | h
        · exact h3 z h
        · rw [List.mem_singleton] at h
          rw [h]
          exact hb
  obtain ⟨s, hs, hsl, hsb⟩ := take 128 (Nat.le_refl _)
  have e1' : (cs.drop 128).take 1 = [Value.int .i64 k] := e1
  have e2' : (cs.drop 129).take 1 = [Value.int .i64 g] := e2
  have e3' : (cs.drop 130).take 1 = [Value.int .i64 n] := e3
  have t0 : cs.take 131 = cs := List.take_of_length_le (by omega)
  have t1 : cs.take 131 = cs.take 130 ++ (cs.drop 130).take 1 := List.take_add (i := 130) (j := 1)
  have t2 : cs.take 130 = cs.take 129 ++ (cs.drop 129).take 1 := List.take_add (i := 129) (j := 1)
  have t3 : cs.take 129 = cs.take 128 ++ (cs.drop 128).take 1 := List.take_add (i := 128) (j := 1)
  refine ⟨s, k, g, n, ?_, hsl, hsb⟩
  calc cs = cs.take 131 := t0.symm
    _ = _ := by rw [t1, t2, t3, hs, e1', e2', e3']; simp
set_option maxRecDepth 100000 in
set_option maxHeartbeats 8000000 in
theorem laminalaw04_BoxIs.law (s : List Int) (k g n : Int) (w : World) (hs : s.length = 128) (hb : ∀ x ∈ s, 0 ≤ x ∧ x < 256) :
    Calls Try.prog 4 #[.agg (askA s k g n)] w fun e w' => e = .returned (.bool true) ∧ Below w.heap.size w w' := by
  have H0 := Cx.start w
  have HS := Aside0.mk hs
  have HB := Aside0.mk hb
  have HU := Aside0.mk (u8A_size s)
  clear hs hb
  go_enter Try.func4, Try.ntmps4
  go_wp2_with (first
    | ((with_reducible refine gate_load (t := 28) (x := .tmp 3) rfl ?_); (apply Cx.genList); (focus ((repeat (with_reducible (first | exact (H0).toS | exact At.here | apply At.there | apply CxS.drewN | apply CxS.drew | apply CxS.alloc | apply CxS.set | apply CxS.setRow))))); clear H0; intro w1 H1; have hb1 := H1.blk (b := w.heap.size) (by repeat (with_reducible (first | exact At.here | apply At.there))); have c128 := (blk_cell hb1 128).trans (askA_at k g n HS.out).1; have c129 := (blk_cell hb1 129).trans (askA_at k g n HS.out).2.1; have c130 := (blk_cell hb1 130).trans (askA_at k g n HS.out).2.2;
       have hcp : ∀ j v, (s.map (Value.int .u8))[j]? = some v → w1.cell? ((⟨w.heap.size, 0, none⟩ : Addr).add j) = some v := (fun j v hv => by rw [show (⟨w.heap.size, 0, none⟩ : Addr).add j = ⟨w.heap.size, j, none⟩ by unfold Addr.add; split <;> simp_all]; exact (blk_cell hb1 j).trans (askA_sec k g n HS.out j v hv)); refine wpList_load_part rfl 28 (.tmp 3) rfl ⟨w.heap.size, 0, none⟩ rfl (s.map (Value.int .u8)) _ hcp Try.underlying28 rfl (by rw [List.length_map, HS.out]; exact info_sector) ?_; clear hb1 hcp))
  refine (laminalaw04_opens.calls s k g n _ HS.out HB.out).mono ?_
  rintro e w2 ⟨rfl, hb2⟩
  have H2 := H1.below hb2
  clear H1 hb2
  go_wp2
  go_ret
  exact ⟨by first | rfl | simp, H2.bel⟩

end Go.Proofs.Ytgnpmephgdghhaa.Hp
