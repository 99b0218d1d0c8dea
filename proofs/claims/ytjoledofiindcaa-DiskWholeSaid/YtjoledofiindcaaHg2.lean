/- Contracts of functions of the given program, and what they lean on: written by this session's own program, out of hand texts laid into the kit's printer. -/
import Derived.Carry
import Derived.Test.YtjoledofiindcaaHp0
import Derived.LoopIn
import Derived.LoopNIn
import Derived.TacticsInMore
import Derived.OwnWalkIn
import Derived.Shelf.RegionOpen
import Derived.Shelf.Abstract
import Derived.RangeFuncLeaves
import Derived.RangeFuncCalls
import Derived.RangeFuncBound
import Derived.RangeFuncNested
import Derived.Deep.MidRow
import Derived.Deep.RegionHeld3
import Derived.ArgAppend
import Derived.Laws.MakeOwn
import Derived.Test.YtjoledofiindcaaHg1
namespace Go.Proofs.Ytjoledofiindcaa.Hp
open Go.RowKit Go.Proofs.YtjoledofiindcaaW.PrintWords Go.Proofs.YtjoledofiindcaaW.PrintLast Go.Proofs.YtjoledofiindcaaW.PrintMore
attribute [local go_sem] max2_int min2_int max_two min_two max_three min_three max_four min_four   -- for this text's walks alone
set_option linter.unusedVariables false
set_option linter.unusedSimpArgs false

-- AUX DKG
def Dk.new (n : Int) : Dk := ⟨0, 0, false, false, n, 0, fun _ => sz0, []⟩
set_option maxRecDepth 100000 in
theorem dk_new {B : Nat} {w0 w : World} {m : List Asr} (n : Int) (H : Cx B w0 w m) (h : 1 ≤ n ∧ n ≤ 4096) :
    Calls Try.prog 11 #[.int .i64 n] w fun e w1 => ∃ b, e = .returned (.tuple #[.pointer (some ⟨b, 0, none⟩), .nilIface]) ∧ Cx B w0 w1 (.own dkR (.pointer (some ⟨b, 0, none⟩)) (Dk.new n) :: m) := by
  have hmm := @run_makeMap Try.prog
  have h1 : ¬ n < 1 := by omega
  have h2 : ¬ 4096 < n := by omega
  clear h
  go_enter Try.func11, Try.ntmps11
  go_wp2
  ((try simp only [Exit.inBlock, Exit.then]); (apply Cx.atPost); (focus ((repeat (with_reducible (first | exact (H).toS | exact At.here | apply At.there | apply CxS.drewN | apply CxS.drew | apply CxS.alloc | apply CxS.set | apply CxS.setRow))))); intro H1)
  go_ret2
  exact ⟨_, rfl, ((H1.newMap (b := w.heap.size) (by repeat (with_reducible (first | exact At.here | apply At.there)))).bigNil 69 129 wrC).closeDk ⟨0, 0, false, false, n, 0, fun _ => sz0, []⟩ (by repeat (with_reducible (first | exact At.here | apply At.there))) (by repeat (with_reducible (first | exact At.here | apply At.there))) (by repeat (with_reducible (first | exact At.here | apply At.there))) (fun _ h => by cases h)⟩
set_option maxRecDepth 100000 in
theorem dk_new_bad {B : Nat} {w0 w : World} {m : List Asr} (n : Int) (H : Cx B w0 w m) (h : n < 1 ∨ 4096 < n) :
    Calls Try.prog 11 #[.int .i64 n] w fun e w1 => e = .returned (.tuple #[.pointer none, errW (some 1)]) ∧ Cx B w0 w1 m := by
  rcases h with h | h
  · go_enter Try.func11, Try.ntmps11
    go_wp2
    ((try simp only [Exit.inBlock, Exit.then]); (apply Cx.atPost); (focus ((repeat (with_reducible (first | exact (H).toS | exact At.here | apply At.there | apply CxS.drewN | apply CxS.drew | apply CxS.alloc | apply CxS.set | apply CxS.setRow))))); intro H1)
    go_ret2
    exact ⟨by first | rfl | simp [errW], H1⟩
  · have h1 : ¬ n < 1 := by omega
    go_enter Try.func11, Try.ntmps11
    go_wp2
    ((try simp only [Exit.inBlock, Exit.then]); (apply Cx.atPost); (focus ((repeat (with_reducible (first | exact (H).toS | exact At.here | apply At.there | apply CxS.drewN | apply CxS.drew | apply CxS.alloc | apply CxS.set | apply CxS.setRow))))); intro H1)
    go_ret2
    exact ⟨by first | rfl | simp [errW], H1⟩
theorem dk_waiting {B : Nat} {w0 w : World} {m r : List Asr} {v : Value} {d : Dk} (H : Cx B w0 w m) (k : At m (.own dkR v d) r) :
    Calls Try.prog 18 #[v] w fun e w1 => e = .returned (.int .i64 d.waiting.length) ∧ w1 = w := by
  obtain ⟨b, A, W, rfl, HWF, H0⟩ := H.openDk k
  obtain ⟨A2, c2, rfl, _⟩ := H0.bigLen (xs := d.waiting) (by repeat (with_reducible (first | exact At.here | apply At.there)))
  have F := (H0).facts; simp only [factsOf, Asr.facts, blkFacts, cellsAre, List.toList_toArray, forall_const, Nat.zero_add, Nat.reduceAdd, and_true, true_and] at F
  go_enter Try.func18, Try.ntmps18
  go_wp2
  go_ret
  exact ⟨rfl, rfl⟩
theorem dk_len {B : Nat} {w0 w : World} {m r : List Asr} {v : Value} {d : Dk} (H : Cx B w0 w m) (k : At m (.own dkR v d) r) :
    Calls Try.prog 25 #[v] w fun e w1 => e = .returned (.int .i64 d.size) ∧ w1 = w := by
  obtain ⟨b, A, W, rfl, HWF, H0⟩ := H.openDk k
  have F := (H0).facts; simp only [factsOf, Asr.facts, blkFacts, cellsAre, List.toList_toArray, forall_const, Nat.zero_add, Nat.reduceAdd, and_true, true_and] at F
  go_enter Try.func25, Try.ntmps25
  go_wp2
  go_ret
  exact ⟨rfl, rfl⟩
theorem dk_steps {B : Nat} {w0 w : World} {m r : List Asr} {v : Value} {d : Dk} (H : Cx B w0 w m) (k : At m (.own dkR v d) r) :
    Calls Try.prog 21 #[v] w fun e w1 => e = .returned (.int .i64 d.steps) ∧ w1 = w := by
  obtain ⟨b, A, W, rfl, HWF, H0⟩ := H.openDk k
  have F := (H0).facts; simp only [factsOf, Asr.facts, blkFacts, cellsAre, List.toList_toArray, forall_const, Nat.zero_add, Nat.reduceAdd, and_true, true_and] at F
  go_enter Try.func21, Try.ntmps21
  go_wp2
  go_ret
  exact ⟨rfl, rfl⟩
theorem dk_down {B : Nat} {w0 w : World} {m r : List Asr} {v : Value} {d : Dk} (H : Cx B w0 w m) (k : At m (.own dkR v d) r) :
    Calls Try.prog 19 #[v] w fun e w1 => e = .returned (.bool d.gone) ∧ w1 = w := by
  obtain ⟨b, A, W, rfl, HWF, H0⟩ := H.openDk k
  have F := (H0).facts; simp only [factsOf, Asr.facts, blkFacts, cellsAre, List.toList_toArray, forall_const, Nat.zero_add, Nat.reduceAdd, and_true, true_and] at F
  go_enter Try.func19, Try.ntmps19
  go_wp2
  go_ret
  exact ⟨rfl, rfl⟩
def Dk.arm (d : Dk) (n : Int) : Dk := if n < 0 then d else { d with armed := true, left := n }
theorem dk_arm {B : Nat} {w0 w : World} {m r : List Asr} {v : Value} {d : Dk} (n : Int) (H : Cx B w0 w m) (k : At m (.own dkR v d) r) :
    Calls Try.prog 20 #[v, .int .i64 n] w fun e w1 => e = .returned (errW (if n < 0 then some 1 else none)) ∧ Cx B w0 w1 (.own dkR v (d.arm n) :: r) := by
  obtain ⟨b, A, W, rfl, HWF, H0⟩ := H.openDk k
  have F := (H0).facts; simp only [factsOf, Asr.facts, blkFacts, cellsAre, List.toList_toArray, forall_const, Nat.zero_add, Nat.reduceAdd, and_true, true_and] at F
  by_cases hn : n < 0
  · go_enter Try.func20, Try.ntmps20
    go_wp2
    ((try simp only [Exit.inBlock, Exit.then]); (apply Cx.atPost); (focus ((repeat (with_reducible (first | exact (H0).toS | exact At.here | apply At.there | apply CxS.drewN | apply CxS.drew | apply CxS.alloc | apply CxS.set | apply CxS.setRow))))); intro H1)
    go_ret
    rw [show d.arm n = d from if_pos (by omega)]
    exact ⟨by first | rfl | simp [errW] | trivial, H1.closeDk d (by repeat (with_reducible (first | exact At.here | apply At.there))) (by repeat (with_reducible (first | exact At.here | apply At.there))) (by repeat (with_reducible (first | exact At.here | apply At.there))) HWF.out⟩
  · go_enter Try.func20, Try.ntmps20
    go_wp2
    ((try simp only [Exit.inBlock, Exit.then]); (apply Cx.atPost); (focus ((repeat (with_reducible (first | exact (H0).toS | exact At.here | apply At.there | apply CxS.drewN | apply CxS.drew | apply CxS.alloc | apply CxS.set | apply CxS.setRow))))); intro H1)
    try simp only [List.setIfInBounds_toArray, List.set_cons_zero, List.set_cons_succ] at H1
    go_ret
    rw [show d.arm n = { d with armed := true, left := n } from if_neg (by omega)]
    exact ⟨by first | rfl | simp [errW] | trivial, H1.closeDk { d with armed := true, left := n } (by repeat (with_reducible (first | exact At.here | apply At.there))) (by repeat (with_reducible (first | exact At.here | apply At.there))) (by repeat (with_reducible (first | exact At.here | apply At.there))) HWF.out⟩
set_option maxRecDepth 100000 in
set_option maxHeartbeats 2000000 in
theorem dk_sure {B : Nat} {w0 w : World} {m r : List Asr} {v : Value} {d : Dk} (i : Int) (hi : (Lit.int .i64 i).wf = true) (H : Cx B w0 w m) (k : At m (.own dkR v d) r) :
    Calls Try.prog 17 #[v, .int .i64 i] w fun e w1 => e = .returned (.agg (u8A (d.sure i))) ∧ Cx B w0 w1 (.own dkR v d :: r) := by
  obtain ⟨b, A, W, rfl, HWF, H0⟩ := H.openDk k
  obtain ⟨bm, rfl⟩ := H0.mapped (x := (d.cnt, d.sure)) (by repeat (with_reducible (first | exact At.here | apply At.there)))
  have hz := dk_zero
  have hsl := H0.lookLen (x := (d.cnt, d.sure)) (by repeat (with_reducible (first | exact At.here | apply At.there))) i
  have HSL := Aside0.mk hsl
  clear H k hsl
  have F0 := (H0).facts; simp only [factsOf, Asr.facts, blkFacts, cellsAre, List.toList_toArray, forall_const, Nat.zero_add, Nat.reduceAdd, and_true, true_and] at F0
  have hlk := fun o => (H0.toS.alloc o).cx.look (b := bm) (x := (d.cnt, d.sure)) (by repeat (with_reducible (first | exact At.here | apply At.there))) i hi
  simp only at hlk
  go_enter Try.func17, Try.ntmps17
  go_wp2_with (((with_reducible refine gate_store (t := 34) (x := .tmp 4) (y := .tmp 13) rfl ?_); (apply Cx.atList); (focus ((repeat (with_reducible (first | exact (H0).toS | exact At.here | apply At.there | apply CxS.drewN | apply CxS.drew | apply CxS.alloc | apply CxS.set | apply CxS.setRow))))); intro HT_; refine wpList_store_row rfl 34 (.tmp 4) (.tmp 13) rfl (w.heap.size) (u8A (d.sure i)) rfl rfl _ _ (HT_.blk (by repeat (with_reducible (first | exact At.here | apply At.there)))) (by rw [u8A_size, HSL.out]; exact dk_info) (by rw [u8A_size, u8A_size, HSL.out, sz0_len]) (u8A_one _) ?_; clear HT_))
  ((try simp only [Exit.inBlock, Exit.then]); (apply Cx.atPost); (focus ((repeat (with_reducible (first | exact (H0).toS | exact At.here | apply At.there | apply CxS.drewN | apply CxS.drew | apply CxS.alloc | apply CxS.set | apply CxS.setRow))))); intro HT)
  refine bodyPost_ret (results_cell_row rfl _ _ w.heap.size _ (u8A (d.sure i)) (0, 0) _ rfl (HT.blk (by repeat (with_reducible (first | exact At.here | apply At.there)))) Try.underlying34 rfl (by rw [u8A_size, HSL.out]; exact dk_info)) rfl ⟨rfl, ?_⟩
  exact (HT.drop (a := .blk w.heap.size (.cells (u8A (d.sure i)) 34 (0, 0))) (by repeat (with_reducible (first | exact At.here | apply At.there)))).closeDk d (by repeat (with_reducible (first | exact At.here | apply At.there))) (by repeat (with_reducible (first | exact At.here | apply At.there))) (by repeat (with_reducible (first | exact At.here | apply At.there))) HWF.out

-- AUX DKR
open Go.Shelf
attribute [local go_sem] Oper.semAt_some
/-- The write that waits for a sector, the last one. -/
def lastW (ws : List (Int × List Int)) (i : Int) : Option (List Int) := ((ws.reverse.find? fun x => x.1 == i)).map (·.2)
def Dk.read (d : Dk) (i : Int) : List Int × Option Int := if d.gone = true then (sz0, some 3) else if d.has i = false then (sz0, some 1) else ((lastW d.waiting i).getD (d.sure i), none)
set_option maxRecDepth 100000 in
theorem results_c34_28 {fn : Func} {p q : Tmp} (h : fn.results = #[.cell p 34, .cell q 28]) (tmps : Array Value) (w : World) (g g2 : Nat) (cs : Array Value) (x : Value)
    (hp : tmps.getD p undef = .pointer (some ⟨g, 0, none⟩)) (hg : w.heap[g]? = some (.cells cs 34 (0, 0))) (hi : (Try.prog.info? 34).map (·.size) = some cs.size)
    (hq : tmps.getD q undef = .pointer (some ⟨g2, 0, none⟩)) (hc : w.cell? ⟨g2, 0, none⟩ = some x) :
    (results fn tmps).run Try.prog w = .ok (.tuple #[.agg cs, x]) w := by
  have h1 : tmps[p]?.getD undef = .pointer (some ⟨g, 0, none⟩) := by simpa using hp
  have h2 : tmps[q]?.getD undef = .pointer (some ⟨g2, 0, none⟩) := by simpa using hq
  have h28 := run_isAgg_plain (P := Try.prog) Try.underlying28 rfl w
  have hl := run_loadVar_row (P := Try.prog) w g 34 34 cs (0, 0) _ hg Try.underlying34 rfl hi
  have hl2 : (loadVar 28 ⟨g2, 0, none⟩).run Try.prog w = .ok x w := by simp [loadVar, h28, hc]
  simp [results, h, h1, h2, asAddr, hl, hl2]
set_option maxRecDepth 100000 in
set_option maxHeartbeats 4000000 in
theorem dk_read_bad {B : Nat} {w0 w : World} {m r : List Asr} {v : Value} {d : Dk} (i : Int) (H : Cx B w0 w m) (k : At m (.own dkR v d) r) (hbad : d.gone = true ∨ d.has i = false) :
    Calls Try.prog 16 #[v, .int .i64 i] w fun e w1 => e = .returned (.tuple #[.agg (u8A (d.read i).1), errW (d.read i).2]) ∧ Below w.heap.size w w1 := by
  obtain ⟨b, A, W, rfl, HWF, H0⟩ := H.openDk k
  have hz := dk_zero
  have hzb := dk_zerob
  have h28 := Try.underlying28
  have h56 := Try.underlying56
  have Hc := Cx.start w
  have F : True := trivial
  have hE : ∀ e : Option Int, errW e = (match e with | none => .nilIface | some c => .iface 56 (.int .i64 c)) := fun e => by cases e <;> rfl
  cases hg : d.gone
  · have hhas : d.has i = false := hbad.resolve_left (by rw [hg]; exact fun h => by cases h)
    have hrd : d.read i = (sz0, some 1) := by simp [Dk.read, hg, hhas]
    have HD := Aside0.mk hhas
    have HG := Aside0.mk hg
    rw [hrd]
    clear hhas hbad hrd hg
    go_enter Try.func16, Try.ntmps16
    go_wp2_with fail
    (apply Cx.atCall; (focus ((repeat (with_reducible (first | exact (Hc).toS | exact At.here | apply At.there | apply CxS.drewN | apply CxS.drew | apply CxS.alloc | apply CxS.set | apply CxS.setRow))))); intro HT)
    refine (dk_down (H.below HT.bel) k).mono ?_
    rintro e w1 ⟨rfl, rfl⟩
    rw [HG.out]
    clear HT
    go_wp2_with fail
    (apply Cx.atCall; (focus ((repeat (with_reducible (first | exact (Hc).toS | exact At.here | apply At.there | apply CxS.drewN | apply CxS.drew | apply CxS.alloc | apply CxS.set | apply CxS.setRow))))); intro HT)
    have HO := (H0.below HT.bel)
    refine (dk_has i HO (by repeat (with_reducible (first | exact At.here | apply At.there)))).mono ?_
    rintro e w1 ⟨rfl, rfl⟩
    rw [show (decide (0 ≤ i ∧ i < d.size)) = false from HD.out]
    clear HT HO
    go_wp2_with ((((with_reducible refine gate_store (t := 34) (x := .tmp 4) (y := .tmp 18) rfl ?_); (apply Cx.atList); (focus ((repeat (with_reducible (first | exact (Hc).toS | exact At.here | apply At.there | apply CxS.drewN | apply CxS.drew | apply CxS.alloc | apply CxS.set | apply CxS.setRow))))); intro HT_; refine wpList_store_row rfl 34 (.tmp 4) (.tmp 18) rfl (w.heap.size + 1) (u8A sz0) rfl rfl _ _ (HT_.blk (by repeat (with_reducible (first | exact At.here | apply At.there)))) (dk_isz sz0_len) (rfl) (u8A_one _) ?_; clear HT_); clear F; (apply Cx.genList); (focus ((repeat (with_reducible (first | exact (Hc).toS | exact At.here | apply At.there | apply CxS.drewN | apply CxS.drew | apply CxS.alloc | apply CxS.set | apply CxS.setRow))))); clear Hc; intro w4 Hc4; have F := (Hc4).facts; simp only [factsOf, Asr.facts, blkFacts, cellsAre, List.toList_toArray, forall_const, Nat.zero_add, Nat.reduceAdd, and_true, true_and] at F))
    ((try simp only [Exit.inBlock, Exit.then]); (apply Cx.atPost); (focus ((repeat (with_reducible (first | exact (Hc4).toS | exact At.here | apply At.there | apply CxS.drewN | apply CxS.drew | apply CxS.alloc | apply CxS.set | apply CxS.setRow))))); intro HT)
    try simp only [List.setIfInBounds_toArray, List.set_cons_zero, List.set_cons_succ] at HT
    exact bodyPost_ret (results_c34_28 rfl _ _ (w.heap.size + 1) (w.heap.size + 1 + 1) (u8A sz0) _ rfl (HT.blk (by repeat (with_reducible (first | exact At.here | apply At.there)))) (dk_isz sz0_len) rfl ((cell_of (HT.blk (b := w.heap.size + 1 + 1) (o := .cells #[.iface 56 (.int .i64 1)] 28 (0, 0)) (by repeat (with_reducible (first | exact At.here | apply At.there)))) 0).trans rfl)) rfl ⟨by first | rfl | trivial, HT.bel⟩
  · have hrd : d.read i = (sz0, some 3) := by simp [Dk.read, hg]
    have HG := Aside0.mk hg
    rw [hrd]
    clear hbad hrd hg
    go_enter Try.func16, Try.ntmps16
    go_wp2_with fail
    (apply Cx.atCall; (focus ((repeat (with_reducible (first | exact (Hc).toS | exact At.here | apply At.there | apply CxS.drewN | apply CxS.drew | apply CxS.alloc | apply CxS.set | apply CxS.setRow))))); intro HT)
    refine (dk_down (H.below HT.bel) k).mono ?_
    rintro e w1 ⟨rfl, rfl⟩
    rw [HG.out]
    clear HT
    go_wp2_with ((((with_reducible refine gate_store (t := 34) (x := .tmp 4) (y := .tmp 11) rfl ?_); (apply Cx.atList); (focus ((repeat (with_reducible (first | exact (Hc).toS | exact At.here | apply At.there | apply CxS.drewN | apply CxS.drew | apply CxS.alloc | apply CxS.set | apply CxS.setRow))))); intro HT_; refine wpList_store_row rfl 34 (.tmp 4) (.tmp 11) rfl (w.heap.size + 1) (u8A sz0) rfl rfl _ _ (HT_.blk (by repeat (with_reducible (first | exact At.here | apply At.there)))) (dk_isz sz0_len) (rfl) (u8A_one _) ?_; clear HT_); clear F; (apply Cx.genList); (focus ((repeat (with_reducible (first | exact (Hc).toS | exact At.here | apply At.there | apply CxS.drewN | apply CxS.drew | apply CxS.alloc | apply CxS.set | apply CxS.setRow))))); clear Hc; intro w4 Hc4; have F := (Hc4).facts; simp only [factsOf, Asr.facts, blkFacts, cellsAre, List.toList_toArray, forall_const, Nat.zero_add, Nat.reduceAdd, and_true, true_and] at F))
    ((try simp only [Exit.inBlock, Exit.then]); (apply Cx.atPost); (focus ((repeat (with_reducible (first | exact (Hc4).toS | exact At.here | apply At.there | apply CxS.drewN | apply CxS.drew | apply CxS.alloc | apply CxS.set | apply CxS.setRow))))); intro HT)
    try simp only [List.setIfInBounds_toArray, List.set_cons_zero, List.set_cons_succ] at HT
    exact bodyPost_ret (results_c34_28 rfl _ _ (w.heap.size + 1) (w.heap.size + 1 + 1) (u8A sz0) _ rfl (HT.blk (by repeat (with_reducible (first | exact At.here | apply At.there)))) (dk_isz sz0_len) rfl ((cell_of (HT.blk (b := w.heap.size + 1 + 1) (o := .cells #[.iface 56 (.int .i64 3)] 28 (0, 0)) (by repeat (with_reducible (first | exact At.here | apply At.there)))) 0).trans rfl)) rfl ⟨by first | rfl | trivial, HT.bel⟩
theorem came_snd (ws : List (Int × List Int)) (k : Nat) : (came ws k).map (·.2) = (ws.drop k).reverse := by
  unfold came
  rw [List.map_map, List.map_reverse]
  congr 1
  apply List.ext_getElem
  · simp
  · intro q h1 h2
    simp only [List.length_drop] at h2
    simp [List.getD_eq_getElem?_getD, List.getElem?_eq_getElem (show k + q < ws.length by omega)]
theorem lastW_came {ws : List (Int × List Int)} {i : Int} {k : Nat} {ini : List (Nat × (Int × List Int))} {last : Nat × (Int × List Int)} (h : came ws k = ini ++ [last]) (e2 : last.2.1 = i) (e3 : ∀ p ∈ ini, p.2.1 ≠ i) : lastW ws i = some last.2.2 ∧ last.2 ∈ ws := by
  have h1 := came_snd ws k
  rw [h, List.map_append, List.map_singleton] at h1
  have h2 : ws.reverse = (ini.map (·.2) ++ [last.2]) ++ (ws.take k).reverse := by rw [h1, ← List.reverse_append, List.take_append_drop]
  have hn : (ini.map (·.2)).find? (fun x => x.1 == i) = none := by
    rw [List.find?_eq_none]
    intro x hx
    obtain ⟨p, hp, rfl⟩ := List.mem_map.1 hx
    simpa using e3 p hp
  refine ⟨?_, ?_⟩
  · unfold lastW
    rw [h2, List.find?_append, List.find?_append, hn, List.find?_singleton]
    simp [e2]
  · have : last.2 ∈ (ws.drop k).reverse := by rw [← h1]; simp
    exact List.mem_of_mem_drop (List.mem_reverse.1 this)
theorem lastW_none {ws : List (Int × List Int)} {i : Int} (h : ∀ p ∈ came ws 0, p.2.1 ≠ i) : lastW ws i = none := by
  have h1 := came_snd ws 0
  rw [List.drop_zero] at h1
  unfold lastW
  rw [← h1, Option.map_eq_none_iff, List.find?_eq_none]
  intro x hx
  obtain ⟨p, hp, rfl⟩ := List.mem_map.1 hx
  simpa using h p hp
/-- What is known between two rounds of Read's loop; what is known where a round returns. -/
def RdI (w : World) (n : Nat) (i : Int) (pre : List (Nat × (Int × List Int))) (W : World) : Prop :=
  (W.heap[w.heap.size + 1 + 1]? = some (.cells #[.nilIface] 28 (0, 0)) ∧ W.heap[w.heap.size + 1]? = some (.cells (u8A sz0) 34 (0, 0)) ∧ W.heap[w.heap.size]? = some (.cells #[.int .i64 i] 3 (0, 0)) ∧ (∀ p ∈ pre, p.2.1 ≠ i) ∧ n ≤ W.heap.size) ∧ Below w.heap.size w W
def RdX (w : World) (i : Int) (c : Code) (pre : List (Nat × (Int × List Int))) (W : World) : Prop :=
  (c = .ret ∧ W.heap[w.heap.size + 1 + 1]? = some (.cells #[.nilIface] 28 (0, 0)) ∧ ∃ ini last, (pre = ini ++ [last] ∧ last.2.1 = i ∧ ∀ p ∈ ini, p.2.1 ≠ i) ∧ W.heap[w.heap.size + 1]? = some (.cells (u8A (secN last.2.2)) 34 (0, 0))) ∧ Below w.heap.size w W
theorem RdI.own (w : World) (n : Nat) (i : Int) (B : Nat) (hB : w.heap.size ≤ B) : OwnFrom B (RdI w n i) :=
  OwnFrom.and (Own.from (fun s A B row hs hg hr => ⟨blk_own _ _ (fun _ : Unit => #[Value.nilIface]) () A B row hs.1 hg hr, blk_own _ _ (fun _ : Unit => u8A sz0) () A B row hs.2.1 hg hr, blk_own _ _ (fun _ : Unit => #[Value.int .i64 i]) () A B row hs.2.2.1 hg hr, hs.2.2.2.1, Nat.le_trans hs.2.2.2.2 hg.size⟩) _) (ownFrom_below (Nat.le_refl _) hB)
theorem RdX.own (w : World) (i : Int) (c : Code) (B : Nat) (hB : w.heap.size ≤ B) : OwnFrom B (RdX w i c) :=
  OwnFrom.and (Own.from (fun s A B row hs hg hr => by obtain ⟨e, h1, ini, last, h2, h3⟩ := hs; exact ⟨e, blk_own _ _ (fun _ : Unit => #[Value.nilIface]) () A B row h1 hg hr, ini, last, h2, blk_own _ _ (fun _ : Unit => u8A (secN last.2.2)) () A B row h3 hg hr⟩) _) (ownFrom_below (Nat.le_refl _) hB)
set_option maxRecDepth 100000 in
set_option maxHeartbeats 8000000 in
theorem dk_read_ok {B : Nat} {w0 w : World} {m r : List Asr} {v : Value} {d : Dk} (i : Int) (hi : (Lit.int .i64 i).wf = true) (H : Cx B w0 w m) (k : At m (.own dkR v d) r) (hl : d.waiting.length < 100000) (hg : d.gone = false) (hh : d.has i = true) :
    Calls Try.prog 16 #[v, .int .i64 i] w fun e w1 => e = .returned (.tuple #[.agg (u8A (d.read i).1), .nilIface]) ∧ Below w.heap.size w w1 := by
  obtain ⟨b, A, W, rfl, HWF, H0⟩ := H.openDk k
  obtain ⟨bm, rfl⟩ := H0.mapped (x := (d.cnt, d.sure)) (by repeat (with_reducible (first | exact At.here | apply At.there)))
  obtain ⟨A2, c2, rfl, hle, hrow, _⟩ := H0.bigLen (xs := d.waiting) (by repeat (with_reducible (first | exact At.here | apply At.there)))
  obtain ⟨N, hN⟩ : ∃ N, N = d.waiting.length := ⟨_, rfl⟩
  rw [← hN] at H0
  have hNb : N < 100000 := by omega
  have HN := Aside0.mk hN
  have hz := dk_zero
  have hz2 := dk_zero2
  have h28 := Try.underlying28
  have HD := Aside0.mk hh
  have HG := Aside0.mk hg
  have HI := Aside0.mk hi
  have Hc := Cx.start w
  have HRD : Aside0 (d.read i = ((lastW d.waiting i).getD (d.sure i), none)) := ⟨by simp [Dk.read, hg, hh]⟩
  rw [HRD.out]
  obtain ⟨res, hres⟩ : ∃ res, res = (lastW d.waiting i).getD (d.sure i) := ⟨_, rfl⟩
  rw [← hres]
  have HRES := Aside0.mk hres
  simp only
  have HROW := Aside0.mk hrow
  clear hl hg hh hi hN hle hrow hres HRD
  refine (callsIn_wide (n := 8)).1 ?_
  refine callsIn_of_wp_marks Try.func16 rfl trivial ?_ rfl
  refine wpIn_wide.2 ?_
  simp only [Try.ntmps16, List.size_toArray, List.length_cons, List.length_nil, Nat.reduceAdd, Nat.reduceSub, Array.replicate_succ, Array.replicate_zero, List.push_toArray, List.append_toArray, List.nil_append, List.cons_append]
  go_wp2_with fail
  ((first | apply Cx.genCall | apply Cx.genCode | apply Cx.genList); (focus ((repeat (with_reducible (first | exact (Hc).toS | exact At.here | apply At.there | apply CxS.drewN | apply CxS.drew | apply CxS.alloc | apply CxS.set | apply CxS.setRow))))); clear Hc; intro T HT)
  have HO := H0.below HT.bel
  have F := (HO).facts; simp only [factsOf, Asr.facts, blkFacts, cellsAre, List.toList_toArray, forall_const, Nat.zero_add, Nat.reduceAdd, and_true, true_and] at F
  have F2 := (HT).facts; simp only [factsOf, Asr.facts, blkFacts, cellsAre, List.toList_toArray, forall_const, Nat.zero_add, Nat.reduceAdd, and_true, true_and] at F2
  have hbs := HT.bel.size
  refine (dk_down (H.below HT.bel) k).mono ?_
  rintro e w1 ⟨rfl, rfl⟩
  rw [HG.out]
  go_wp2_with fail
  refine (dk_has i HO (by repeat (with_reducible (first | exact At.here | apply At.there)))).mono ?_
  rintro e w1 ⟨rfl, rfl⟩
  rw [show (decide (0 ≤ i ∧ i < d.size)) = true from HD.out]
  go_wp2_with fail
  refine ((callsIn_wide (n := 7)).1 (dk_back_in Fence.wide 7 trivial rfl A2 N c2 _)).mono ?_
  rintro e w1 ⟨rfl, rfl⟩
  go_wp2_with fail
  have hcb : ∀ j x, d.waiting[j]? = some x → ∃ g, A2 = some ⟨g, 0, none⟩ ∧ g < (w1.alloc (.cells #[.slice A2 N c2] 65)).heap.size ∧ (wrC x).length = 129 ∧ (w1.alloc (.cells #[.slice A2 N c2] 65)).rangeAt g (j * 129) (wrC x) := fun j x hx => by
    obtain ⟨g, e, h1, _, h3, h4⟩ := HO.bigAt (xs := d.waiting) (n := N) (c := c2) (A := A2) (by repeat (with_reducible (first | exact At.here | apply At.there))) j x hx
    exact ⟨g, e, by simp; omega, h3, World.rangeAt_alloc (fun q u hu => h4 q u hu) _⟩
  have hB0 : Below w.heap.size w (w1.alloc (.cells #[.slice A2 N c2] 65)) := HT.bel.alloc hbs _
  have hI0 := ((HT.toS.alloc (.cells #[.slice A2 N c2] 65)).cx)
  have q1 := hI0.blk (b := w.heap.size + 1 + 1) (o := .cells #[.nilIface] 28 (0, 0)) (by repeat (with_reducible (first | exact At.here | apply At.there)))
  have q2 := hI0.blk (b := w.heap.size + 1) (o := .cells (u8A sz0) 34 (0, 0)) (by repeat (with_reducible (first | exact At.here | apply At.there)))
  have q3 := hI0.blk (b := w.heap.size) (o := .cells #[.int .i64 i] 3 (0, 0)) (by repeat (with_reducible (first | exact At.here | apply At.there)))
  have hrng : w1.heap.size < (w1.alloc (.cells #[.slice A2 N c2] 65)).heap.size := by simp
  have hbox : (w1.alloc (.cells #[.slice A2 N c2] 65)).cell? ⟨w1.heap.size, 0, none⟩ = some (.slice A2 N c2) := (cell_of (heap_alloc_new w1 _) 0).trans rfl
  have hst := dk_back_stops Fence.wide 7 trivial rfl (by decide) w1.heap.size N c2 A2 d.waiting HN.out hNb _ hrng hbox hcb
  have hsz2 : (w1.alloc (.cells #[.slice A2 N c2] 65)).heap.size = w1.heap.size + 1 := by simp
  have hws : w.heap.size + 1 + 1 < w1.heap.size := F2.1.1
  clear hcb hrng hbox F F2 hI0
  have HSZ := Aside0.mk hsz2
  generalize (w1.alloc (.cells #[.slice A2 N c2] 65)) = T at *
  have hle0 : w.heap.size ≤ T.heap.size := by omega
  clear hsz2
  refine (wpIn_wide (n := 8)).1 ?_
  refine wpIn_rangeFunc_ownH (F := Fence.wide) rfl (by decide) (gf := 41) (lb := #[.pointer (some ⟨w1.heap.size, 0, none⟩)]) rfl trivial (enters_of Try.func41 (by kernel_rfl) rfl)
    hst belowK_t (belowK_b (Nat.le_refl _)) (Below.refl _ _) (fun _ => rfl)
    (RdI w T.heap.size i) (RdX w i) (RdI.own w _ i _ hle0) (fun c => RdX.own w i c _ hle0)
    ⟨⟨q1, q2, q3, (fun _ h => by cases h), Nat.le_refl _⟩, hB0⟩
    (fun x a' W => ∃ Bx, w.heap.size + 1 + 1 < Bx ∧ W.heap[Bx]? = some (.cells (wrN x.2).toArray 69 (0, 0)) ∧ a' = { tmps := #[.pointer (some ⟨b, 0, none⟩), .int .i64 i, undef, .pointer (some ⟨w.heap.size, 0, none⟩), .pointer (some ⟨w.heap.size + 1, 0, none⟩), .pointer (some ⟨w.heap.size + 1 + 1, 0, none⟩), undef, .pointer (some ⟨Bx, 0, none⟩), .bool false, .pointer (some ⟨b, 0, none⟩), .bool false, undef, undef, .bool false, .pointer (some ⟨b, 0, none⟩), .int .i64 i, .bool true, .bool false, undef, undef, .pointer (some ⟨b, 0, none⟩), .pointer (some ⟨b, 0, none⟩), .pointer (some ⟨b, 6, none⟩), .slice A2 N c2, .func (.func 41) #[] #[.pointer (some ⟨w1.heap.size, 0, none⟩)], .int .i64 (x.1 : Int), .agg (wrN x.2).toArray, undef, undef, undef, undef, undef, undef, undef, undef, undef, undef, undef, undef], defers := [] })
    (fun x a' _ X Y row hs hg hr => by obtain ⟨Bx, h1, h2, h3⟩ := hs; exact ⟨Bx, h1, blk_own _ _ (fun _ : Unit => (wrN x.2).toArray) () X Y row h2 hg (fun r e => (hr r e).2), h3⟩)
    ?assign ?body ?done ?stop
  case assign =>
    rintro l pre x W K ⟨⟨h1, h2, h3, h4, hT⟩, hB⟩ hK
    have hl := wrN_len x.2
    have hnew := heap_alloc_new W (.cells (wrC (0, sz0)).toArray 69 (0, 0))
    gi_wp2_with (refine wpListIn_store_row rfl 69 (.tmp 7) (.tmp 26) rfl W.heap.size (wrN x.2).toArray rfl rfl _ _ hnew (by rw [List.size_toArray, hl]; kernel_rfl) (by rw [List.size_toArray, List.size_toArray, hl, wrC_len _ sz0_len]) (wrC_oneA _) ?_)
    have hbw : Below W.heap.size W ((W.alloc (.cells (wrC (0, sz0)).toArray 69)).setRow W.heap.size (wrN x.2).toArray) := below_setRow ((Below.refl _ W).alloc (Nat.le_refl _) _) (Nat.le_refl _) _
    exact hK _ _ (((KeepsOthers.alloc _ _).trans (KeepsOthers.setRow_ hnew _)).from _) (hbw.mono hT) ⟨⟨(hbw.block _ (blk_size h1)).trans h1, (hbw.block _ (blk_size h2)).trans h2, (hbw.block _ (blk_size h3)).trans h3, h4, Nat.le_trans hT hbw.size⟩, hB.trans (hbw.mono hB.size)⟩ ⟨W.heap.size, by have := blk_size h1; omega, setRow_heap _ _ _ _ _ _ hnew, rfl⟩
  case body =>
    rintro l pre x a' W hl0 ⟨rr, hrr⟩ ⟨⟨h1, h2, h3, h4, hT⟩, hB⟩ ⟨Bx, hBx, hb, rfl⟩ hlt
    have c0 : W.cell? ⟨Bx, 0, none⟩ = some (.int .i64 x.2.1) := (cell_of hb 0).trans rfl
    have ci : W.cell? ⟨w.heap.size, 0, none⟩ = some (.int .i64 i) := (cell_of h3 0).trans rfl
    have hsl := secN_len x.2.2
    have hr5 : W.rangeAt Bx 1 ((secN x.2.2).map (Value.int .u8)) := fun q u hu => by
      rw [cell_of hb, Nat.add_comm]
      simpa [wrN, wrC] using hu
    by_cases he : x.2.1 = i
    · have hsr : (W.setRow (w.heap.size + 1) (u8A (secN x.2.2))).heap[w.heap.size + 1 + 1]? = some (.cells #[.nilIface] 28 (0, 0)) := (setRow_other W _ _ _ (by omega)).trans h1
      have c5 : (W.setRow (w.heap.size + 1) (u8A (secN x.2.2))).cell? ⟨w.heap.size + 1 + 1, 0, none⟩ = some .nilIface := (cell_of hsr 0).trans rfl
      have f5 : (W.setRow (w.heap.size + 1) (u8A (secN x.2.2))).frozen? ⟨w.heap.size + 1 + 1, 0, none⟩ = false := frozen_of hsr 0
      have hq2 := setRow_heap W (w.heap.size + 1) _ (u8A (secN x.2.2)) _ _ h2
      have HE := Aside0.mk he
      clear hsr
      subst he
      gi_wp2_with (first
        | (refine wpListIn_load_mid rfl 34 (.tmp 31) rfl Bx 1 rfl ((secN x.2.2).map (Value.int .u8)) _ hr5 Try.underlying34 rfl (by rw [List.length_map, hsl]; exact dk_info) ?_)
        | (refine wpListIn_store_row rfl 34 (.tmp 4) (.tmp 32) rfl (w.heap.size + 1) (u8A (secN x.2.2)) rfl rfl _ _ h2 (dk_isz hsl) (by rw [u8A_size, u8A_size, hsl, sz0_len]) (u8A_one _) ?_))
      exact ⟨((KeepsOthers.setRow_ h2 _).trans (KeepsOthers.setCell _ _ _)).from _, ⟨rfl, (setCell_here ((setRow_other W _ _ _ (by omega)).trans h1) 0 _).trans rfl, pre, x, ⟨rfl, rfl, h4⟩, (Below.heap_setCell _ ⟨w.heap.size + 1 + 1, 0, none⟩ _ _ (by show w.heap.size + 1 ≠ w.heap.size + 1 + 1; omega)).trans hq2⟩, (below_setRow hB (by omega) _).setCell (p := ⟨w.heap.size + 1 + 1, 0, none⟩) (by show w.heap.size ≤ w.heap.size + 1 + 1; omega) _⟩
    · gi_wp2
      exact ⟨KeepsFrom.refl _ _, Below.refl _ _, ⟨h1, h2, h3, fun p hp => (List.mem_append.1 hp).elim (h4 p) (fun e => by rw [List.mem_singleton] at e; subst e; exact he), hT⟩, hB⟩
  case done =>
    rintro D ys W hD rfl ⟨⟨h1, h2, h3, h4, hT⟩, hB⟩ hK
    have HOW := H0.below hB
    have hres2 : res = d.sure i := by rw [HRES.out, lastW_none h4]; rfl
    subst hres2
    have HDK := Aside0.mk hK
    have HH1 := Aside0.mk h1
    have hsl := H0.lookLen (x := (d.cnt, d.sure)) (by repeat (with_reducible (first | exact At.here | apply At.there))) i
    simp only at hsl
    have HSL := Aside0.mk hsl
    have hlk := ((HOW.toS.drew).cx).look (b := bm) (x := (d.cnt, d.sure)) (by repeat (with_reducible (first | exact At.here | apply At.there))) i HI.out
    simp only at hlk
    have ci : W.cell? ⟨w.heap.size, 0, none⟩ = some (.int .i64 i) := (cell_of h3 0).trans rfl
    have hsr : (W.drew.setRow (w.heap.size + 1) (u8A (d.sure i))).heap[w.heap.size + 1 + 1]? = some (.cells #[.nilIface] 28 (0, 0)) := (setRow_other W.drew _ _ _ (by omega)).trans h1
    have c5 : (W.drew.setRow (w.heap.size + 1) (u8A (d.sure i))).cell? ⟨w.heap.size + 1 + 1, 0, none⟩ = some .nilIface := (cell_of hsr 0).trans rfl
    have f5 : (W.drew.setRow (w.heap.size + 1) (u8A (d.sure i))).frozen? ⟨w.heap.size + 1 + 1, 0, none⟩ = false := frozen_of hsr 0
    have hq2 := setRow_heap W.drew (w.heap.size + 1) _ (u8A (d.sure i)) _ _ h2
    have F := (HOW).facts; simp only [factsOf, Asr.facts, blkFacts, cellsAre, List.toList_toArray, forall_const, Nat.zero_add, Nat.reduceAdd, and_true, true_and] at F
    clear hsl hK h1 hst
    go_wp2_with fail
    refine wp_region_still_tail 6 (by kernel_rfl) (by kernel_rfl) ?_; simp only [List.take_succ_cons, List.take_zero, List.drop_succ_cons, List.drop_zero]; (repeat (first | fail | still_step)); try refine wpStill_nil ?_
    change wpList _ _ _ _ _ W.drew
    refine wpList_store_row rfl 34 (.tmp 4) (.tmp 38) rfl (w.heap.size + 1) (u8A (d.sure i)) rfl rfl 34 (u8A sz0) h2 (dk_isz HSL.out) (by rw [u8A_size, u8A_size, HSL.out, sz0_len]) (u8A_one _) ?_
    go_wp2
    have hne1 : w.heap.size + 1 ≠ D := by have := HSZ.out; omega
    have hne2 : w.heap.size + 1 + 1 ≠ D := by have := HSZ.out; omega
    have hK2 := ((KeepsOthers.setRow_ (W := W.drew) h2 (u8A (d.sure i))).trans (KeepsOthers.setCell _ ⟨w.heap.size + 1 + 1, 0, none⟩ .nilIface)).same D _ HDK.out rfl
    have g1 : (((W.drew.setRow (w.heap.size + 1) (u8A (d.sure i))).setCell ⟨w.heap.size + 1 + 1, 0, none⟩ .nilIface).putObj D (.deferred none)).heap[w.heap.size + 1]? = some (.cells (u8A (d.sure i)) 34 (0, 0)) :=
      (World.putObj_heap_other hne1).trans ((Below.heap_setCell _ ⟨w.heap.size + 1 + 1, 0, none⟩ _ _ (by show w.heap.size + 1 ≠ w.heap.size + 1 + 1; omega)).trans hq2)
    have g2 : (((W.drew.setRow (w.heap.size + 1) (u8A (d.sure i))).setCell ⟨w.heap.size + 1 + 1, 0, none⟩ .nilIface).putObj D (.deferred none)).heap[w.heap.size + 1 + 1]? = some (.cells #[.nilIface] 28 (0, 0)) :=
      (World.putObj_heap_other hne2).trans ((setCell_here hsr 0 _).trans rfl)
    refine ⟨by simp, .inl ⟨_, _, rfl, run_takeDeferred hK2, ?_⟩⟩
    refine ⟨_, results_c34_28 rfl _ _ (w.heap.size + 1) (w.heap.size + 1 + 1) (u8A (d.sure i)) .nilIface rfl g1 (dk_isz HSL.out) rfl ((cell_of g2 0).trans rfl), rfl, ?_⟩
    exact ((below_setRow (below_drew hB) (by omega) _).setCell (p := ⟨w.heap.size + 1 + 1, 0, none⟩) (by show w.heap.size ≤ w.heap.size + 1 + 1; omega) _).trans (belowK_b (w := T) hle0 _ D _ _ hD hK2 rfl rfl)
  case stop =>
    rintro D c pre W hD ⟨k', hk', rfl⟩ ⟨⟨rfl, h1, ini, last, ⟨e1, e2, e3⟩, h2⟩, hB⟩ hK
    obtain ⟨hl1, hl2⟩ := lastW_came e1 e2 e3
    have hlen : last.2.2.length = 128 := by simpa [wrC] using HROW.out _ hl2
    have hres2 : res = last.2.2 := by rw [HRES.out, hl1]; rfl
    rw [secN_eq hlen] at h2
    subst hres2
    refine wpIn_wide.2 ?_
    go_wp2
    have g1 : (W.putObj D (.deferred none)).heap[w.heap.size + 1]? = some (.cells (u8A last.2.2) 34 (0, 0)) := (World.putObj_heap_other (by have := HSZ.out; omega)).trans h2
    have g2 : (W.putObj D (.deferred none)).heap[w.heap.size + 1 + 1]? = some (.cells #[.nilIface] 28 (0, 0)) := (World.putObj_heap_other (by have := HSZ.out; omega)).trans h1
    refine ⟨by simp, .inl ⟨_, _, rfl, run_takeDeferred hK, ?_⟩⟩
    refine ⟨_, results_c34_28 rfl _ _ (w.heap.size + 1) (w.heap.size + 1 + 1) (u8A last.2.2) .nilIface rfl g1 (dk_isz hlen) rfl ((cell_of g2 0).trans rfl), rfl, ?_⟩
    exact hB.trans (belowK_b (w := T) hle0 _ D _ _ hD hK rfl rfl)
theorem dk_readLen {B : Nat} {w0 w : World} {m r : List Asr} {v : Value} {d : Dk} (i : Int) (H : Cx B w0 w m) (k : At m (.own dkR v d) r) : (d.read i).1.length = 128 := by
  obtain ⟨b, A, W, rfl, HWF, H0⟩ := H.openDk k
  have h1 := H0.lookLen (x := (d.cnt, d.sure)) (by repeat (with_reducible (first | exact At.here | apply At.there))) i
  obtain ⟨A2, c2, _, _, hrow, _⟩ := H0.bigLen (xs := d.waiting) (by repeat (with_reducible (first | exact At.here | apply At.there)))
  unfold Dk.read
  split
  · exact sz0_len
  · split
    · exact sz0_len
    · simp only
      cases hl : lastW d.waiting i with
      | none => exact h1
      | some s =>
        unfold lastW at hl
        obtain ⟨x, hx, rfl⟩ := Option.map_eq_some_iff.1 hl
        have := hrow x (List.mem_reverse.1 (List.mem_of_find?_eq_some hx))
        simpa [wrC] using this
theorem dk_read {B : Nat} {w0 w : World} {m r : List Asr} {v : Value} {d : Dk} (i : Int) (hi : (Lit.int .i64 i).wf = true) (H : Cx B w0 w m) (k : At m (.own dkR v d) r) (hl : d.waiting.length < 100000) :
    Calls Try.prog 16 #[v, .int .i64 i] w fun e w1 => e = .returned (.tuple #[.agg (u8A (d.read i).1), errW (d.read i).2]) ∧ Cx B w0 w1 m := by
  by_cases hb : d.gone = true ∨ d.has i = false
  · exact (dk_read_bad i H k hb).mono fun e w1 h => ⟨h.1, H.below h.2⟩
  · have h1 : d.gone = false := by cases h : d.gone <;> simp_all
    have h2 : d.has i = true := by cases h : d.has i <;> simp_all
    refine (dk_read_ok i hi H k hl h1 h2).mono ?_
    rintro e w1 ⟨rfl, hb⟩
    refine ⟨?_, H.below hb⟩
    have : (d.read i).2 = none := by simp [Dk.read, h1, h2]
    rw [this]
    rfl

-- AUX DKL
theorem yieldsIf_load_cell {P : Program} {ops : Array Oper} {S : World → Prop} {op : Oper} {a : Act} (hw : Region.wanted op (yielded ops a.tmps) = true) (ty : TypeId) (x : Operand) (ho : op.op = .load ty x)
    (b o : Nat) (hx : a.eval x = .pointer (some ⟨b, o, none⟩)) (v : Value) (hag : ∀ w, (isAgg ty).run P w = .ok false w) (hS : ∀ w, S w → w.cell? ⟨b, o, none⟩ = some v) : YieldsIf P ops S op v a :=
  .inl ⟨hw, fun w hw' => by
    have hl : (loadVar ty ⟨b, o, none⟩).run P w = .ok v w := by simp [loadVar, hag w, hS w hw']
    unfold execOp
    simp only [ho, hx, Instr.loadAt, Instr.sureAddr, Sem.run_bind, Sem.run_pure, Result.andThen_ok, hl]⟩
theorem rangeAt_u8A {W : World} {g t : Nat} {fr : Nat × Nat} {s : List Int} (h : W.heap[g]? = some (.cells (u8A s) t fr)) : W.rangeAt g 0 (s.map (Value.int .u8)) := fun j v hv => by
  rw [cell_of h, Nat.zero_add]
  simpa [u8A] using hv
theorem Cx.low {B : Nat} {w0 w : World} {m r : List Asr} {b : Nat} {o : Obj} (h : Cx B w0 w m) (k : At m (.blk b o) r) : b < w.heap.size := blk_size (h.blk k)
theorem rangeAt_below_ {W W' : World} {g o : Nat} {cs : List Value} (h : W.rangeAt g o cs) (hb : Below W.heap.size W W') : W'.rangeAt g o cs := fun j v hv => (hb.cell (p := ⟨g, o + j, none⟩) (World.block_lt_of_cell? W _ (h j v hv))).trans (h j v hv)
theorem there_blk {W : World} {g t : Nat} {cs : Array Value} (h : W.heap[g]? = some (.cells cs t (0, 0))) (o n : Nat) (hn : o + n ≤ cs.size) : W.there g o n := fun j hj => ⟨by rw [cell_of h, Array.getElem?_eq_getElem (by omega)]; rfl, frozen_of h _⟩
theorem u8A_toList (s : List Int) : (u8A s).toList = s.map (Value.int .u8) := by simp [u8A]
/-- What a sector is, with the writes that wait. -/
def Dk.view (d : Dk) (i : Int) : List Int := (lastW d.waiting i).getD (d.sure i)
theorem lastW_snoc (ws : List (Int × List Int)) (n : Int) (s : List Int) (i : Int) : lastW (ws ++ [(n, s)]) i = if i = n then some s else lastW ws i := by
  unfold lastW
  rw [List.reverse_append, List.reverse_singleton, List.singleton_append, List.find?_cons]
  by_cases h : i = n
  · subst h; simp
  · rw [if_neg h, show ((n == i) = false) from by simpa using fun e => h e.symm]
theorem setF_all (ws : List (Int × List Int)) (f : Int → List Int) (i : Int) : ∀ k, k ≤ ws.length → setF (fun _ => true) ws f k i = (lastW (ws.take k) i).getD (f i)
  | 0, _ => by simp [setF, lastW]
  | k + 1, h => by
    obtain ⟨x, hx⟩ : ∃ x, ws[k]? = some x := ⟨_, List.getElem?_eq_getElem (by omega)⟩
    have ih := setF_all ws f i k (by omega)
    rw [List.take_add_one, hx, Option.toList_some, lastW_snoc]
    simp only [setF, if_true, updF, List.getD_eq_getElem?_getD, hx, Option.getD_some]
    by_cases h2 : i = x.1
    · rw [if_pos h2, if_pos h2]; rfl
    · rw [if_neg h2, if_neg h2]; exact ih
theorem Dk.flush_view {d : Dk} (h : d.off = false) (i : Int) : d.flush.view i = d.view i ∧ d.flush.sure i = d.view i := by
  have e := setF_all d.waiting d.sure i d.waiting.length (Nat.le_refl _)
  rw [List.take_length] at e
  have h1 : d.flush = d.step.settle (fun _ => true) := by simp [Dk.flush, h]
  have h2 := d.step_rest
  have h3 : d.flush.sure i = d.view i := by
    rw [h1]
    unfold Dk.settle Dk.view
    simp only [h2.2.1, h2.2.2.1, h2.2.2.2.1]
    exact e
  refine ⟨?_, h3⟩
  rw [← h3, h1]
  rfl
theorem Dk.flush_rest {d : Dk} (h : d.off = false) : d.flush.gone = d.gone ∧ d.flush.armed = d.armed ∧ d.flush.size = d.size ∧ d.flush.cnt = d.cnt + d.waiting.length ∧ d.flush.waiting = [] := by
  have h1 : d.flush = d.step.settle (fun _ => true) := by simp [Dk.flush, h]
  rw [h1]
  unfold Dk.settle Dk.step
  simp [h]
theorem Dk.write_yes {d : Dk} {i : Int} {s : List Int} (h1 : d.has i = true) (h2 : d.off = false) : d.write i s = { d.step with waiting := d.waiting ++ [(i, s)] } := by simp [Dk.write, h1, h2]
theorem Dk.write_no {d : Dk} {i : Int} {s : List Int} (h1 : d.has i = false) : d.write i s = d := by simp [Dk.write, h1]
theorem Dk.write_view {d : Dk} {i : Int} {s : List Int} (h1 : d.has i = true) (h2 : d.off = false) : (d.write i s).view = updF d.view i s := by
  funext j
  rw [Dk.write_yes h1 h2]
  unfold Dk.view updF
  simp only [lastW_snoc, d.step_rest.2.2.1]
  by_cases h : j = i
  · simp [h]
  · simp [h]
theorem Dk.write_rest {d : Dk} {i : Int} {s : List Int} (h1 : d.has i = true) (h2 : d.off = false) : (d.write i s).gone = d.gone ∧ (d.write i s).armed = d.armed ∧ (d.write i s).size = d.size ∧ (d.write i s).cnt = d.cnt ∧ (d.write i s).waiting.length = d.waiting.length + 1 := by
  rw [Dk.write_yes h1 h2]
  unfold Dk.step
  simp [h2]
theorem Dk.read_view {d : Dk} {i : Int} (h1 : d.gone = false) (h2 : d.has i = true) : d.read i = (d.view i, none) := by simp [Dk.read, Dk.view, h1, h2]
theorem Dk.off_no {d : Dk} (h1 : d.gone = false) (h2 : d.armed = false) : d.off = false := by simp [Dk.off, h1, h2]
/-- Six sectors in a row. -/
def flat6 (f : Int → List Int) : List Int := f 0 ++ (f 1 ++ (f 2 ++ (f 3 ++ (f 4 ++ f 5))))
theorem flat6_len {f : Int → List Int} (h : ∀ i, (f i).length = 128) : (flat6 f).length = 768 := by simp [flat6, h]
theorem six {P : Nat → Prop} (h0 : P 0) (h1 : P 1) (h2 : P 2) (h3 : P 3) (h4 : P 4) (h5 : P 5) : ∀ i, i < 6 → P i := by
  intro i hi
  rcases i with _ | _ | _ | _ | _ | _ | i
  · exact h0
  · exact h1
  · exact h2
  · exact h3
  · exact h4
  · exact h5
  · omega
theorem app_at {α : Type} (a b : List α) (n : Nat) (h : a.length = n) (j : Nat) : (a ++ b)[n + j]? = b[j]? := by
  rw [List.getElem?_append_right (by omega)]
  congr 1
  omega
theorem flat6_at {f : Int → List Int} (h : ∀ i, (f i).length = 128) (j : Nat) (hj : j < 128) : ∀ i : Nat, i < 6 → (flat6 f)[i * 128 + j]? = (f (i : Int))[j]? := by
  have g : ∀ (i : Int) (b : List Int), (f i ++ b)[j]? = (f i)[j]? := fun i b => List.getElem?_append_left (by rw [h]; exact hj)
  have t : ∀ (i : Int) (b : List Int) (q : Nat), (f i ++ b)[128 + q]? = b[q]? := fun i b q => app_at _ _ 128 (h i) q
  unfold flat6
  apply six
  · rw [show 0 * 128 + j = j by omega]; exact g 0 _
  · rw [show (0 + 1) * 128 + j = 128 + j by omega, t]; exact g 1 _
  · rw [show (0 + 1 + 1) * 128 + j = 128 + (128 + j) by omega, t, t]; exact g 2 _
  · rw [show (0 + 1 + 1 + 1) * 128 + j = 128 + (128 + (128 + j)) by omega, t, t, t]; exact g 3 _
  · rw [show (0 + 1 + 1 + 1 + 1) * 128 + j = 128 + (128 + (128 + (128 + j))) by omega, t, t, t, t]; exact g 4 _
  · rw [show (0 + 1 + 1 + 1 + 1 + 1) * 128 + j = 128 + (128 + (128 + (128 + (128 + j)))) by omega, t, t, t, t, t]; rfl
theorem flat6_put {f : Int → List Int} (h : ∀ i, (f i).length = 128) (s : List Int) (hs : s.length = 128) : ∀ i : Nat, i < 6 → (flat6 f).take (i * 128) ++ s ++ (flat6 f).drop (i * 128 + 128) = flat6 (updF f (i : Int) s) := by
  unfold flat6 updF
  apply six <;> simp [List.take_append, List.drop_append, h, List.take_of_length_le, List.drop_of_length_le]
theorem putAt_u8A (l s : List Int) (k : Nat) : putAt (u8A l) k (s.map (Value.int .u8)) = u8A (l.take k ++ s ++ l.drop (k + s.length)) := by
  simp [putAt, u8A]
theorem Only.setCells_ {w : World} {g : Nat} : ∀ (l : List Value) (o : Nat) (W : World), Only w W (fun i => i = g) → Only w (W.setCells g o l) (fun i => i = g)
  | [], _, _, h => h
  | v :: l, o, W, h => Only.setCells_ l (o + 1) _ (h.setCell (p := ⟨g, o, none⟩) (.inl rfl) v)
theorem setCells_blk {g t : Nat} {fr : Nat × Nat} : ∀ (l : List Value) (o : Nat) (W : World) (cs : Array Value), W.heap[g]? = some (.cells cs t fr) → o + l.length ≤ cs.size → (W.setCells g o l).heap[g]? = some (.cells (putAt cs o l) t fr)
  | [], o, W, cs, h, _ => by
    rw [show putAt cs o [] = cs from by simp [putAt]]
    exact h
  | v :: l, o, W, cs, h, hl => by
    have h1 := setCell_here h o v
    have ih := setCells_blk l (o + 1) _ _ h1 (by simp only [List.length_cons] at hl; simp; omega)
    have e : putAt (cs.setIfInBounds o v) (o + 1) l = putAt cs o (v :: l) := by
      have hf := fold_put (v :: l) 0 o cs (by simpa using hl)
      have hg := fold_put l 1 o (cs.setIfInBounds (o + 0) v) (by simp only [List.length_cons] at hl; simp; omega)
      rw [List.zipIdx_cons, List.foldl_cons, hg] at hf
      exact hf
    rw [← e]
    exact ih
theorem CxS.setMid {B : Nat} {w0 w : World} {n : Nat} {m r : List Asr} {g t : Nat} {cs : Array Value} (h : CxS B w0 w n m) (k : At m (.blk g (.cells cs t (0, 0))) r) (o : Nat) (l : List Value) (hl : o + l.length ≤ cs.size) :
    CxS B w0 (w.setCells g o l) n (.blk g (.cells (putAt cs o l) t (0, 0)) :: r) := by
  obtain ⟨h, rfl⟩ := h
  obtain ⟨S, ha, hs, hr, hc⟩ := (h.find k).open_
  have ho := Only.setCells_ (g := g) l o w (Only.refl _ _)
  have hsz : (w.setCells g o l).heap.size = w.heap.size := by
    clear ho hc hs hr ha
    have : ∀ (l : List Value) (o : Nat) (W : World), (W.setCells g o l).heap.size = W.heap.size := by
      intro l
      induction l with
      | nil => intro o W; rfl
      | cons v l ih => intro o W; rw [World.setCells, ih]; simp [World.setCell]
    exact this l o w
  exact ⟨hc _ [.blk g (.cells (putAt cs o l) t (0, 0))] (ho.mono fun i hi => by subst hi; exact ha.1) ⟨fun i => i = g, ⟨rfl, setCells_blk l o w cs ha.2 hl⟩, fun i hi => .inl (by subst hi; exact ha.1), trivial⟩, hsz⟩
theorem Cx.six {B : Nat} {w0 w : World} {m r : List Asr} {g : Nat} {t : Nat} {f : Int → List Int} (H : Cx B w0 w m) (k : At m (.blk g (.cells (u8A (flat6 f)) t (0, 0))) r) (h : ∀ i, (f i).length = 128) (i : Nat) (hi : i < 6) : w.rangeAt g (i * 128) ((f (i : Int)).map (Value.int .u8)) := fun j v hv => by
  have hj : j < 128 := by
    have := (List.getElem?_eq_some_iff.1 hv).1
    simpa [h] using this
  rw [cell_of (H.blk k), u8A, List.getElem?_toArray, List.getElem?_map, flat6_at h j hj i hi, ← List.getElem?_map]
  exact hv
theorem Dk.view_len {B : Nat} {w0 w : World} {m r : List Asr} {v : Value} {d : Dk} (H : Cx B w0 w m) (k : At m (.own dkR v d) r) (i : Int) : (d.view i).length = 128 := by
  obtain ⟨b, A, W, rfl, HWF, H0⟩ := H.openDk k
  have h1 := H0.lookLen (x := (d.cnt, d.sure)) (by repeat (with_reducible (first | exact At.here | apply At.there))) i
  obtain ⟨A2, c2, _, _, hrow, _⟩ := H0.bigLen (xs := d.waiting) (by repeat (with_reducible (first | exact At.here | apply At.there)))
  unfold Dk.view
  cases hl : lastW d.waiting i with
  | none => exact h1
  | some s =>
    unfold lastW at hl
    obtain ⟨x, hx, rfl⟩ := Option.map_eq_some_iff.1 hl
    have := hrow x (List.mem_reverse.1 (List.mem_of_find?_eq_some hx))
    simpa [wrC] using this
theorem dk_info6 : (Try.prog.info? 46).map (·.size) = some 768 := by kernel_rfl
theorem dk_zero6 (W : World) : (zeroValue 46).run Try.prog W = .ok (.agg (u8A (flat6 fun _ => sz0))) W := by
  have h : (Try.prog.info? 46).map (·.zero) = some (some (.agg (u8A (flat6 fun _ => sz0)))) := by kernel_rfl
  obtain ⟨i, hi, hz⟩ := Option.map_eq_some_iff.1 h
  simp [zeroValue, typeInfo, hi, hz]

-- AUX DKN
theorem u8A_set_ (s : List Int) (i : Nat) (y : Int) : (u8A s).setIfInBounds i (.int .u8 y) = u8A (s.set i y) := by simp [u8A]
def filled (b : Int) (i : Nat) : List Int := List.replicate i b ++ List.replicate (128 - i) 0
theorem filled_len (b : Int) (i : Nat) (h : i ≤ 128) : (filled b i).length = 128 := by simp [filled]; omega
theorem filled_set (b : Int) (i : Nat) (h : i < 128) : (filled b i).set i b = filled b (i + 1) := by
  unfold filled
  rw [List.set_append, if_neg (by simp), List.length_replicate, Nat.sub_self, show 128 - i = (128 - (i + 1)) + 1 by omega, List.replicate_succ, List.set_cons_zero, List.replicate_succ', List.append_assoc]
  rfl
def fullS (b : Int) : List Int := List.replicate 128 b
theorem fullS_len (b : Int) : (fullS b).length = 128 := by simp [fullS]
theorem filled_all (b : Int) : filled b 128 = fullS b := by simp [filled, fullS]
set_option maxRecDepth 100000 in
set_option maxHeartbeats 2000000 in
theorem dk_full (b : Int) (w : World) : Calls Try.prog 13 #[.int .u8 b] w fun e w1 => e = .returned (.agg (u8A (fullS b))) ∧ Below w.heap.size w w1 := by
  have hz := dk_zero
  have H0 := Cx.start w
  have F : True := trivial
  go_enter Try.func13, Try.ntmps13
  go_wp2_with ((((with_reducible refine gate_store (t := 34) (x := .tmp 3) (y := .tmp 5) rfl ?_); (apply Cx.atList); (focus ((repeat (with_reducible (first | exact (H0).toS | exact At.here | apply At.there | apply CxS.drewN | apply CxS.drew | apply CxS.alloc | apply CxS.set | apply CxS.setRow))))); intro HT_; refine wpList_store_row rfl 34 (.tmp 3) (.tmp 5) rfl (w.heap.size + 1) (u8A sz0) rfl rfl _ _ (HT_.blk (by repeat (with_reducible (first | exact At.here | apply At.there)))) (dk_isz sz0_len) (rfl) (u8A_one _) ?_; clear HT_); clear F; (apply Cx.genList); (focus ((repeat (with_reducible (first | exact (H0).toS | exact At.here | apply At.there | apply CxS.drewN | apply CxS.drew | apply CxS.alloc | apply CxS.set | apply CxS.setRow))))); clear H0; intro w1 H1; have F := (H1).facts; simp only [factsOf, Asr.facts, blkFacts, cellsAre, List.toList_toArray, forall_const, Nat.zero_add, Nat.reduceAdd, and_true, true_and] at F))
  clear F
  go_loopw [6] (fun v6 wr => ∃ i : Nat, i ≤ 128 ∧ v6 = .int .i64 i ∧ Cx w.heap.size w wr [.blk (w.heap.size + 1) (.cells (u8A (filled b i)) 34 (0, 0)), .blk w.heap.size (.cells (u8A sz0) 34 (0, 0))]) (fun v6 _ => 128 - (intOf v6).toNat)
  case atStart => exact ⟨0, by omega, rfl, by simpa [filled, sz0] using H1⟩
  case round =>
    clear H1
    obtain ⟨i, hi, rfl, H2⟩ := hrel
    have hbk := H2.blk (b := w.heap.size + 1) (o := .cells (u8A (filled b i)) 34 (0, 0)) (by repeat (with_reducible (first | exact At.here | apply At.there)))
    have HBK := Aside0.mk hbk
    by_cases hlt : i < 128
    · have ci : wr.cell? ⟨w.heap.size + 1, i, none⟩ = some (.int .u8 ((filled b i)[i]'(by rw [filled_len _ _ hi]; exact hlt))) := by
        rw [cell_of hbk, u8A, List.getElem?_toArray, List.getElem?_map, List.getElem?_eq_getElem (by rw [filled_len _ _ hi]; exact hlt)]
        rfl
      have fi := frozen_of hbk i
      have h0 : (0 : Int) ≤ (i : Int) := by omega
      have h1 : (i : Int) < 128 := by omega
      clear hbk
      go_wp2
      refine ⟨⟨i + 1, by omega, by go_num, ?_⟩, by simp [intOf]; omega⟩
      have H3 := (H2.toS.set (b := w.heap.size + 1) (cs := u8A (filled b i)) (by repeat (with_reducible (first | exact At.here | apply At.there))) i (.int .u8 b)).cx
      rw [u8A_set_, filled_set b i hlt] at H3
      exact H3
    · obtain rfl : i = 128 := by omega
      rw [filled_all] at H2 HBK
      clear hbk
      have F : True := trivial
      go_wp2_with (first | ((with_reducible refine gate_load (t := 34) (x := .tmp 3) rfl ?_); (apply Cx.atList); (focus ((repeat (with_reducible (first | exact (H2).toS | exact At.here | apply At.there | apply CxS.drewN | apply CxS.drew | apply CxS.alloc | apply CxS.set | apply CxS.setRow))))); intro HT_; refine wpList_load_row rfl 34 (.tmp 3) rfl (w.heap.size + 1) rfl _ (u8A (fullS b)) _ _ (HT_.blk (by repeat (with_reducible (first | exact At.here | apply At.there)))) Try.underlying34 rfl (dk_isz (fullS_len b)) ?_; clear HT_) | (((with_reducible refine gate_store (t := 34) (x := .tmp 2) (y := .tmp 13) rfl ?_); (apply Cx.atList); (focus ((repeat (with_reducible (first | exact (H2).toS | exact At.here | apply At.there | apply CxS.drewN | apply CxS.drew | apply CxS.alloc | apply CxS.set | apply CxS.setRow))))); intro HT_; refine wpList_store_row rfl 34 (.tmp 2) (.tmp 13) rfl (w.heap.size) (u8A (fullS b)) rfl rfl _ _ (HT_.blk (by repeat (with_reducible (first | exact At.here | apply At.there)))) (dk_isz (fullS_len b)) (by rw [u8A_size, u8A_size, sz0_len, fullS_len]) (u8A_one _) ?_; clear HT_); clear F; (apply Cx.genList); (focus ((repeat (with_reducible (first | exact (H2).toS | exact At.here | apply At.there | apply CxS.drewN | apply CxS.drew | apply CxS.alloc | apply CxS.set | apply CxS.setRow))))); clear H2; intro w3 H3; have F := (H3).facts; simp only [factsOf, Asr.facts, blkFacts, cellsAre, List.toList_toArray, forall_const, Nat.zero_add, Nat.reduceAdd, and_true, true_and] at F))
      ((try simp only [Exit.inBlock, Exit.then]); (apply Cx.atPost); (focus ((repeat (with_reducible (first | exact (H3).toS | exact At.here | apply At.there | apply CxS.drewN | apply CxS.drew | apply CxS.alloc | apply CxS.set | apply CxS.setRow))))); intro HT)
      exact bodyPost_ret (results_cell_row rfl _ _ w.heap.size _ (u8A (fullS b)) (0, 0) _ rfl (HT.blk (by repeat (with_reducible (first | exact At.here | apply At.there)))) Try.underlying34 rfl (dk_isz (fullS_len b))) rfl ⟨by first | rfl | trivial, HT.bel⟩

-- AUX RF
/-- How the document's disk stands. -/
structure Rf where
  secs : List (List Int)
  waiting : List (Int × List Int)
  steps : Int
  left : Int
  armed : Bool
  gone : Bool
abbrev rfC (A1 : Option Addr) (n1 c1 : Nat) (A2 : Option Addr) (n2 c2 : Nat) (st lf : Int) (ar gn : Bool) : Array Value := #[.slice A1 n1 c1, .slice A2 n2 c2, .int .i64 st, .int .i64 lf, .bool ar, .bool gn]
theorem rf_info : (Try.prog.info? 50).map (·.size) = some 6 := by kernel_rfl
/-- A row that is read. -/
def rowAt {α : Type} (sz : Nat) (enc : α → List Value) (W : World) (A : Option Addr) (n c : Nat) (xs : List α) : Prop :=
  n = xs.length ∧ n ≤ c ∧ (∀ x ∈ xs, (enc x).length = sz) ∧ ∀ i x, xs[i]? = some x → ∃ g, A = some ⟨g, 0, none⟩ ∧ W.rangeAt g (i * sz) (enc x)
theorem rowAt.below {α : Type} {sz : Nat} {enc : α → List Value} {W W' : World} {A : Option Addr} {n c : Nat} {xs : List α} (h : rowAt sz enc W A n c xs) (hb : Below W.heap.size W W') : rowAt sz enc W' A n c xs :=
  ⟨h.1, h.2.1, h.2.2.1, fun i x hx => by obtain ⟨g, e, hr⟩ := h.2.2.2 i x hx; exact ⟨g, e, rangeAt_below_ hr hb⟩⟩
theorem Cx.rowOf {α : Type} {B : Nat} {w0 w : World} {m r : List Asr} {e size n c : Nat} {A : Option Addr} {enc : α → List Value} {xs : List α} (H : Cx B w0 w m) (k : At m (.own (bigR e size enc) (.slice A n c) xs) r) : rowAt size enc w A n c xs := by
  obtain ⟨A', c', e1, h2, h3, h4⟩ := H.bigLen k
  injection e1 with e1 e2 e3
  subst e1 e2 e3
  refine ⟨rfl, h2, h3, fun i x hx => ?_⟩
  obtain ⟨g, e, _, _, _, h5⟩ := H.bigAt k i x hx
  exact ⟨g, e, fun j u hu => h5 j u hu⟩
abbrev secE (s : List Int) : List Value := s.map (Value.int .u8)
abbrev secsR : Repr (List (List Int)) := bigR 34 128 secE
abbrev rwaitR : Repr (List (Int × List Int)) := bigR 87 129 wrC
def Rf.ok (x : Rf) : Bool := !(x.gone || (x.armed && decide (x.left = 0)))
def Rf.step (x : Rf) : Rf := if x.gone = true then x else if x.armed = true then (if x.left = 0 then { x with gone := true } else { x with left := wrap64 (x.left - 1), steps := wrap64 (x.steps + 1) }) else { x with steps := wrap64 (x.steps + 1) }
set_option maxRecDepth 100000 in
set_option maxHeartbeats 2000000 in
theorem rf_step (x : Rf) (A1 : Option Addr) (n1 c1 : Nat) (A2 : Option Addr) (n2 c2 : Nat) (w : World) :
    Calls Try.prog 42 #[.agg (rfC A1 n1 c1 A2 n2 c2 x.steps x.left x.armed x.gone)] w fun e w1 => e = .returned (.tuple #[.agg (rfC A1 n1 c1 A2 n2 c2 x.step.steps x.step.left x.step.armed x.step.gone), .bool x.ok]) ∧ Below w.heap.size w w1 := by
  have H0 := Cx.start w
  have hu := Try.underlying50
  obtain ⟨xs, ws, st, lf, ar, gn⟩ := x
  simp only [Rf.step, Rf.ok]
  cases gn
  · cases ar
    · go_enter Try.func42, Try.ntmps42
      go_wp2
      ((try simp only [Exit.inBlock, Exit.then]); (apply Cx.atPost); (focus ((repeat (with_reducible (first | exact (H0).toS | exact At.here | apply At.there | apply CxS.drewN | apply CxS.drew | apply CxS.alloc | apply CxS.set | apply CxS.setRow))))); intro HT)
      try simp only [List.setIfInBounds_toArray, List.set_cons_zero, List.set_cons_succ] at HT
      exact bodyPost_ret (results_ct rfl _ _ (w.heap.size + 1) _ _ (0, 0) _ rfl (HT.blk At.here) Try.underlying50 rfl rf_info) rfl ⟨by first | rfl | trivial, HT.bel⟩
    · by_cases hl : lf = 0
      · subst hl
        go_enter Try.func42, Try.ntmps42
        go_wp2
        ((try simp only [Exit.inBlock, Exit.then]); (apply Cx.atPost); (focus ((repeat (with_reducible (first | exact (H0).toS | exact At.here | apply At.there | apply CxS.drewN | apply CxS.drew | apply CxS.alloc | apply CxS.set | apply CxS.setRow))))); intro HT)
        try simp only [List.setIfInBounds_toArray, List.set_cons_zero, List.set_cons_succ] at HT
        exact bodyPost_ret (results_ct rfl _ _ (w.heap.size + 1) _ _ (0, 0) _ rfl (HT.blk At.here) Try.underlying50 rfl rf_info) rfl ⟨by first | rfl | trivial, HT.bel⟩
      · have hd : decide (lf = 0) = false := by simp [hl]
        have HL := Aside0.mk hl
        rw [if_neg (by simp), if_pos rfl, if_neg hl, hd]
        clear hl hd
        have hlb : (lf == 0) = false := by have := HL.out; simp [this]
        go_enter Try.func42, Try.ntmps42
        go_wp2
        ((try simp only [Exit.inBlock, Exit.then]); (apply Cx.atPost); (focus ((repeat (with_reducible (first | exact (H0).toS | exact At.here | apply At.there | apply CxS.drewN | apply CxS.drew | apply CxS.alloc | apply CxS.set | apply CxS.setRow))))); intro HT)
        try simp only [List.setIfInBounds_toArray, List.set_cons_zero, List.set_cons_succ] at HT
        exact bodyPost_ret (results_ct rfl _ _ (w.heap.size + 1) _ _ (0, 0) _ rfl (HT.blk At.here) Try.underlying50 rfl rf_info) rfl ⟨by first | rfl | trivial, HT.bel⟩
  · go_enter Try.func42, Try.ntmps42
    go_wp2
    ((try simp only [Exit.inBlock, Exit.then]); (apply Cx.atPost); (focus ((repeat (with_reducible (first | exact (H0).toS | exact At.here | apply At.there | apply CxS.drewN | apply CxS.drew | apply CxS.alloc | apply CxS.set | apply CxS.setRow))))); intro HT)
    try simp only [List.setIfInBounds_toArray, List.set_cons_zero, List.set_cons_succ] at HT
    exact bodyPost_ret (results_ct rfl _ _ (w.heap.size + 1) _ _ (0, 0) _ rfl (HT.blk At.here) Try.underlying50 rfl rf_info) rfl ⟨by first | rfl | trivial, HT.bel⟩

-- AUX RD
theorem flat_set {α : Type} {enc : α → List Value} {sz : Nat} : ∀ {xs : List α}, (∀ x ∈ xs, (enc x).length = sz) → ∀ (i : Nat) (x : α), i < xs.length → (xs.set i x).flatMap enc = (xs.flatMap enc).take (i * sz) ++ enc x ++ (xs.flatMap enc).drop (i * sz + sz)
  | [], _, i, _, h => by simp at h
  | y :: xs, hx, 0, x, _ => by
    have h1 := hx y List.mem_cons_self
    rw [List.set_cons_zero, List.flatMap_cons, List.flatMap_cons, Nat.zero_mul, List.take_zero, List.nil_append, Nat.zero_add, List.drop_append, List.drop_of_length_le (by omega), h1, Nat.sub_self]
    rfl
  | y :: xs, hx, i + 1, x, h => by
    have h1 := hx y List.mem_cons_self
    have ih := flat_set (fun z hz => hx z (List.mem_cons_of_mem _ hz)) i x (by simpa using h)
    have e1 : (i + 1) * sz = (enc y).length + i * sz := by rw [h1, Nat.add_mul]; omega
    rw [List.set_cons_succ, List.flatMap_cons, List.flatMap_cons, ih, e1, List.take_length_add_append, Nat.add_assoc, List.drop_length_add_append]
    simp only [List.append_assoc]
theorem take_splice {F R e : List Value} {k sz N : Nat} (h1 : F.length = N) (h2 : e.length = sz) (h3 : k + sz ≤ N) : ((F ++ R).take k ++ e ++ (F ++ R).drop (k + sz)).take N = F.take k ++ e ++ F.drop (k + sz) := by
  have e1 : (F ++ R).take k = F.take k := List.take_append_of_le_length (by omega)
  have e2 : (F ++ R).drop (k + sz) = F.drop (k + sz) ++ R := List.drop_append_of_le_length (by omega)
  rw [e1, e2, ← List.append_assoc]
  have hl : (F.take k ++ e ++ F.drop (k + sz)).length = N := by simp only [List.length_append, List.length_take, List.length_drop]; omega
  rw [← hl]
  exact List.take_left
theorem Cx.bigThere {α : Type} {B : Nat} {w0 w : World} {m r : List Asr} {e sz g n c : Nat} {enc : α → List Value} {xs : List α} (H : Cx B w0 w m) (k : At m (.own (bigR e sz enc) (.slice (some ⟨g, 0, none⟩) n c) xs) r) (i : Nat) (hi : i < xs.length) : w.there g (i * sz) sz := by
  obtain ⟨S, ⟨hx, hown, hS⟩, hs2⟩ := H.has k
  have hm : i * sz + sz ≤ xs.length * sz := by rw [← Nat.succ_mul]; exact Nat.mul_le_mul_right _ hi
  rcases hown.2 with ⟨e1, _⟩ | ⟨g', cap, cur, e1, _, hgg, hnc, hcm, hcs, htake⟩
  · cases e1
  · injection e1 with e1 e2 e3
    injection e1 with e1
    injection e1 with e1
    subst e1
    exact there_blk hgg _ _ (by rw [hcs]; exact Nat.le_trans hm (Nat.mul_le_mul_right _ hnc))
theorem Cx.bigSet {α : Type} {B : Nat} {w0 w : World} {m r : List Asr} {e sz g n c : Nat} {enc : α → List Value} {xs : List α} (H : Cx B w0 w m) (k : At m (.own (bigR e sz enc) (.slice (some ⟨g, 0, none⟩) n c) xs) r) (i : Nat) (x : α) (hi : i < xs.length) (hxx : (enc x).length = sz) :
    Cx B w0 (w.setCells g (i * sz) (enc x)) (.own (bigR e sz enc) (.slice (some ⟨g, 0, none⟩) n c) (xs.set i x) :: r) := by
  obtain ⟨S, ⟨hx, hown, hS⟩, hs2, _, hcl⟩ := (H.find k).open_
  have hm : i * sz + sz ≤ xs.length * sz := by rw [← Nat.succ_mul]; exact Nat.mul_le_mul_right _ hi
  have hflat := flat_len hx
  rcases hown.2 with ⟨e1, _⟩ | ⟨g', cap, cur, e1, hb0, hgg, hnc, hcm, hcs, htake⟩
  · cases e1
  · injection e1 with e1 e2 e3
    injection e1 with e1
    injection e1 with e1
    subst e1 e2 e3
    have hcl2 : i * sz + (enc x).length ≤ cur.size := by rw [hxx, hcs]; exact Nat.le_trans hm (Nat.mul_le_mul_right _ hnc)
    have hblk := setCells_blk (enc x) (i * sz) w cur hgg hcl2
    have hSg : S g := hS g rfl
    refine hcl _ [.own (bigR e sz enc) (.slice (some ⟨g, 0, none⟩) xs.length c) (xs.set i x)] ((Only.setCells_ (enc x) (i * sz) w (Only.refl _ _)).mono fun q hq => by subst hq; exact hSg)
      ⟨fun q => q = g, ⟨?_, ⟨?_, .inr ⟨g, c, _, ?_, hb0, hblk, ?_, hcm, ?_, ?_⟩⟩, fun q hq => by simp [Value.ownBlock] at hq; exact hq.symm⟩, fun q hq => .inl (by subst hq; exact hSg), trivial⟩
    · intro y hy
      rcases List.mem_or_eq_of_mem_set hy with h | h
      · exact hx y h
      · rw [h]; exact hxx
    · rw [flat_len (sz := sz) (fun y hy => by
        rcases List.mem_or_eq_of_mem_set hy with h | h
        · exact hx y h
        · rw [h]; exact hxx)]
    · rw [List.length_set]
    · rw [List.length_set]; exact hnc
    · simp only [putAt, List.size_toArray, List.length_append, List.length_take, List.length_drop, Array.length_toList]
      omega
    · rw [List.length_set, flat_set hx i x hi]
      have hsp : cur.toList = xs.flatMap enc ++ cur.toList.drop (xs.length * sz) := by rw [← htake, List.take_append_drop]
      simp only [putAt]
      rw [hxx]
      generalize cur.toList.drop (xs.length * sz) = R at hsp
      rw [hsp]
      have h1 : (xs.flatMap enc).length = xs.length * sz := hflat
      generalize xs.flatMap enc = F at h1 ⊢
      exact take_splice h1 hxx hm
/-- An append of nothing. -/
theorem app_none {P : Program} (w : World) (t ty e g n c : Nat) (i : TypeInfo) (ht : P.underlying t = some (.slice e)) (hi : P.info? e = some i) (hn : n ≤ c) :
    (Builtin.append_ #[t, t] ty #[.slice (some ⟨g, 0, none⟩) n c, .slice none 0 0]).run P w = .ok (.slice (some ⟨g, 0, none⟩) n c) w := by
  simp [Builtin.append_, run_underlying ht, sizeOf, typeInfo, hi, Builtin.lenOf, Builtin.firstCells, loadCells, loadCellsFrom, hn, storeCells]
theorem row_news {α : Type} {sz : Nat} {enc : α → List Value} {W : World} {g n c : Nat} {xs : List α} (h : rowAt sz enc W (some ⟨g, 0, none⟩) n c xs) : ∀ j u, (xs.flatMap enc)[j]? = some u → W.cell? ((⟨g, 0, none⟩ : Addr).add j) = some u := by
  intro j u hu
  obtain ⟨h1, h2, h3, h4⟩ := h
  rw [Addr.add_mid, Nat.zero_add]
  have hj := (List.getElem?_eq_some_iff.1 hu).1
  rw [flat_len h3] at hj
  have hs0 : 0 < sz := by
    rcases Nat.eq_zero_or_pos sz with h | h
    · subst h; simp at hj
    · exact h
  have hq : j / sz < xs.length := Nat.div_lt_of_lt_mul (by rw [Nat.mul_comm]; exact hj)
  have hjm : j = j / sz * sz + j % sz := by rw [Nat.mul_comm]; exact (Nat.div_add_mod j sz).symm
  obtain ⟨g', e, hr⟩ := h4 (j / sz) _ (List.getElem?_eq_getElem hq)
  injection e with e
  injection e with e
  subst e
  have hmem := h3 _ (List.getElem_mem hq)
  have hlt : j % sz < (enc xs[j / sz]).length := by rw [hmem]; exact Nat.mod_lt _ hs0
  rw [hjm]
  refine hr (j % sz) u ?_
  have hsplit : xs = xs.take (j / sz) ++ xs[j / sz] :: xs.drop (j / sz + 1) := by rw [← List.drop_eq_getElem_cons, List.take_append_drop]
  have hlen : ((xs.take (j / sz)).flatMap enc).length = j / sz * sz := by
    rw [flat_len (sz := sz) (fun y hy => h3 y (List.mem_of_mem_take hy)), List.length_take, Nat.min_eq_left (by omega)]
  rw [hsplit, List.flatMap_append, List.flatMap_cons, List.getElem?_append_right (by rw [hlen]; omega), hlen, List.getElem?_append_left (by omega)] at hu
  rw [show j - j / sz * sz = j % sz by omega] at hu
  exact hu
/-- An append of a row that is read, which may be nil. -/
theorem Cx.app_row {α : Type} {B : Nat} {w0 w : World} {mm r : List Asr} {e size bytes n c n2 c2 : Nat} {enc : α → List Value} {g : Nat} {A2 : Option Addr} {z : Value} {xs ys : List α} (H : Cx B w0 w mm) (k : At mm (.own (bigR e size enc) (.slice (some ⟨g, 0, none⟩) n c) xs) r) {P : Program} (t ty : TypeId)
    (ht : P.underlying t = some (.slice e)) (hi : (P.info? e).map (fun i => (i.zero, i.size, i.bytes)) = some (some z, size, bytes)) (hzs : z.cells.size = size) (hsz : 0 < size) (hby : bytes ≤ 100000000)
    (hr : rowAt size enc w A2 n2 c2 ys) (hnil : n2 = 0 → A2 = none ∧ c2 = 0) (h1 : ∀ y ∈ ys, ∀ u ∈ enc y, u.oneCell' = true) (h63 : xs.length + ys.length ≤ 1000000) :
    ∃ g' c' w', (Builtin.append_ #[t, t] ty #[.slice (some ⟨g, 0, none⟩) n c, .slice A2 n2 c2]).run P w = .ok (.slice (some ⟨g', 0, none⟩) (xs ++ ys).length c') w' ∧ Cx B w0 w' (.own (bigR e size enc) (.slice (some ⟨g', 0, none⟩) (xs ++ ys).length c') (xs ++ ys) :: r) := by
  obtain ⟨hn, hc, hx, hrd⟩ := id hr
  by_cases h0 : n2 = 0
  · obtain ⟨rfl, rfl⟩ := hnil h0
    subst h0
    obtain rfl : ys = [] := List.eq_nil_of_length_eq_zero hn.symm
    obtain ⟨A', c', e1, h2, _⟩ := H.bigLen k
    injection e1 with e1 e2 e3
    subst e1 e2 e3
    obtain ⟨i, hi, _⟩ := Option.map_eq_some_iff.1 hi
    rw [List.append_nil]
    exact ⟨_, _, w, app_none w t ty e g xs.length c i ht hi h2, H.find k⟩
  · obtain ⟨g2, e2, _⟩ := hrd 0 _ (List.getElem?_eq_getElem (by omega))
    subst e2
    obtain ⟨v', w', hrun, _, H2⟩ := H.app_big k (P := P) t ty ht hi hzs hsz hby ys ⟨g2, 0, none⟩ n2 c2 hn hx (row_news hr) (fun u hu => by obtain ⟨y, hy, hu⟩ := List.mem_flatMap.1 hu; exact h1 y hy u hu) h63
    obtain ⟨A', c', rfl, _, _, hs⟩ := H2.bigLen At.here
    obtain ⟨g', rfl, _⟩ := hs (by rw [List.length_append]; omega)
    exact ⟨g', c', w', hrun, H2⟩
theorem wr_parts {W : World} {g2 k : Nat} {x : Int × List Int} {n : Int} (h : W.rangeAt g2 (k * 129) (wrC x)) (hn : x.1 = n) : W.cell? ⟨g2, k * 129, none⟩ = some (.int .i64 n) ∧ W.rangeAt g2 (k * 129 + 1) (secE x.2) :=
  ⟨by rw [← hn]; exact h 0 _ rfl, fun j u hu => by rw [Nat.add_assoc]; exact h (1 + j) u (by rw [Nat.add_comm]; exact hu)⟩
def doneL (xs : List (List Int)) (ws : List (Int × List Int)) : List (List Int) := ws.foldl (fun l p => l.set p.1.toNat p.2) xs
theorem doneL_len (xs : List (List Int)) (ws : List (Int × List Int)) : (doneL xs ws).length = xs.length := by
  unfold doneL
  induction ws generalizing xs with
  | nil => rfl
  | cons p ws ih => rw [List.foldl_cons, ih, List.length_set]
theorem doneL_snoc (xs : List (List Int)) (ws : List (Int × List Int)) (p : Int × List Int) : doneL xs (ws ++ [p]) = (doneL xs ws).set p.1.toNat p.2 := by simp [doneL]
theorem sec_info3 : (Try.prog.info? 34).map (fun i => (i.zero, i.size, i.bytes)) = some (some (.agg (u8A sz0)), 128, 128) := by kernel_rfl
theorem secE_one (s : List Int) : ∀ u ∈ secE s, u.oneCell' = true := by
  intro u hu
  obtain ⟨y, _, rfl⟩ := List.mem_map.1 hu
  rfl
set_option maxRecDepth 100000 in
set_option maxHeartbeats 4000000 in
theorem rf_done {B : Nat} {w0 w : World} {m : List Asr} (g1 n1 c1 : Nat) (A2 : Option Addr) (n2 c2 : Nat) (xs : List (List Int)) (ws : List (Int × List Int)) (H : Cx B w0 w m) (h1 : rowAt 128 secE w (some ⟨g1, 0, none⟩) n1 c1 xs) (h2 : rowAt 129 wrC w A2 n2 c2 ws)
    (hin : ∀ p ∈ ws, 0 ≤ p.1 ∧ p.1 < n1) (hl1 : 0 < n1 ∧ n1 ≤ 100000) (hl2 : n2 ≤ 100000) :
    Calls Try.prog 43 #[.slice (some ⟨g1, 0, none⟩) n1 c1, .slice A2 n2 c2] w fun e w1 => ∃ g c, e = .returned (.slice (some ⟨g, 0, none⟩) n1 c) ∧ Cx B w0 w1 (.own secsR (.slice (some ⟨g, 0, none⟩) n1 c) (doneL xs ws) :: m) := by
  have Hc := Cx.start w
  obtain ⟨hn1, hc1, hx1, _⟩ := id h1
  obtain ⟨hn2, hc2, hx2, hr2⟩ := id h2
  have HN1 := Aside0.mk hn1
  have HN2 := Aside0.mk hn2
  have HI := Aside0.mk hin
  have HR1 := Aside0.mk h1
  have HR2 := Aside0.mk hr2
  have HX1 := Aside0.mk hx1
  have HX2 := Aside0.mk hx2
  have HH := Aside0.mk H
  clear H hin h1 h2 hn1 hn2 hx1 hx2 hr2 hc1 hc2
  go_enter Try.func43, Try.ntmps43
  go_wp2_with ((with_reducible refine gate_builtin (b := .append) (xs := #[.tmp 7, .tmp 8]) rfl ?_); at_builtin; (apply Cx.atList); (focus ((repeat (with_reducible (first | exact (Hc).toS | exact At.here | apply At.there | apply CxS.drewN | apply CxS.drew | apply CxS.alloc | apply CxS.set | apply CxS.setRow))))); intro HT_; have HT2 := HT_.bigLit (e := 34) (size := 128) (enc := secE) (cs := #[]) [] (by repeat (with_reducible (first | exact At.here | apply At.there))) (by simp) (fun _ h => by cases h) (by decide); obtain ⟨g, c', w', hrun, H3⟩ := HT2.app_row At.here (P := Try.prog) 31 31 Try.underlying31 sec_info3 (by rw [Value.cells, u8A_size, sz0_len]) (by decide) (by decide) (HR1.out.below HT_.bel) (fun h => by omega) (fun y _ => secE_one y) (by have := HN1.out; simp; omega); rw [List.nil_append, ← HN1.out] at hrun H3; refine wpList_append_run rfl (.tmp 7) (.tmp 8) 31 31 rfl _ _ _ rfl rfl hrun ?_; clear hrun HT_ HT2)
  go_loopw [6] (fun v6 wr => ∃ k : Nat, k ≤ n2 ∧ v6 = .int .i64 k ∧ Cx w.heap.size w wr [.own secsR (.slice (some ⟨g, 0, none⟩) n1 c') (doneL xs (ws.take k))]) (fun v6 _ => n2 - (intOf v6).toNat)
  case atStart => exact ⟨0, by omega, rfl, H3⟩
  case round =>
    clear H3
    obtain ⟨k, hk, rfl, H4⟩ := hrel
    have k0 : (0 : Int) ≤ (k : Int) := by omega
    by_cases hlt : k < n2
    · have k1 : (k : Int) < (n2 : Int) := by omega
      obtain ⟨x, hx⟩ : ∃ x, ws[k]? = some x := ⟨_, List.getElem?_eq_getElem (by have := HN2.out; omega)⟩
      obtain ⟨g2, rfl, hr⟩ := HR2.out k x hx
      have hmem := List.mem_of_getElem? hx
      obtain ⟨hi0, hi1⟩ := HI.out x hmem
      have hxl : (wrC x).length = 129 := HX2.out x hmem
      have hx2 : x.2.length = 128 := by simpa [wrC] using hxl
      obtain ⟨n, hn⟩ : ∃ n : Nat, x.1 = (n : Int) := ⟨x.1.toNat, by omega⟩
      have hn0 : (0 : Int) ≤ (n : Int) := by omega
      have hn1 : (n : Int) < (n1 : Int) := by omega
      have hr' := rangeAt_below_ hr (H4.bel)
      obtain ⟨c0, hr5⟩ := wr_parts hr' hn
      have HRW := Aside0.mk hr
      have HNN := Aside0.mk hn
      have HS : Aside0 (doneL xs (ws.take (k + 1)) = (doneL xs (ws.take k)).set n x.2) := ⟨by rw [List.take_add_one, hx, Option.toList_some, doneL_snoc, hn, Int.toNat_natCast]⟩
      have HNL : Aside0 (n < (doneL xs (ws.take k)).length) := ⟨by rw [doneL_len]; have := HN1.out; omega⟩
      have HX := Aside0.mk hx2
      clear hx hr hmem hi0 hi1 hxl hx2 hn hr'
      go_wp2_with fail
      refine wp_region_held_drew (S := fun W => W.cell? ⟨g2, k * 129, none⟩ = some (.int .i64 (n : Int)) ∧ W.rangeAt g2 (k * 129 + 1) (secE x.2)) (by kernel_rfl) (⟨c0, hr5⟩) (fun hH_ => ?_)
      clear c0 hr5
      have H5 := (H4.toS.drew).cx
      clear H4
      (refine wpAnyH_take (i := 0) (v := ?_) rfl (by kernel_rfl) (by kernel_rfl) (by kernel_rfl) (fun _ _ _ h => h) (Or.inl ⟨by rfl, ?_⟩) hH_ ?_; rotate_left; (focus (intro w_ hSw_; go_simp; try (with_reducible rfl))); simp only [List.getElem_toArray, List.getElem_cons_succ, List.getElem_cons_zero, Act.put, List.setIfInBounds_toArray, List.set_cons_zero, List.set_cons_succ])
      (refine wpAnyH_take (i := 1) (v := ?_) rfl (by kernel_rfl) (by kernel_rfl) (by kernel_rfl) (fun _ _ _ h => h) (Or.inl ⟨by rfl, ?_⟩) hH_ ?_; rotate_left; (focus (intro w_ hSw_; go_simp; try (with_reducible rfl))); simp only [List.getElem_toArray, List.getElem_cons_succ, List.getElem_cons_zero, Act.put, List.setIfInBounds_toArray, List.set_cons_zero, List.set_cons_succ])
      (refine wpAnyH_take (i := 2) (v := ?_) rfl (by kernel_rfl) (by kernel_rfl) (by kernel_rfl) (fun _ _ _ h => h) (Or.inl ⟨by rfl, ?_⟩) hH_ ?_; rotate_left; (focus (intro w_ hSw_; go_simp; try (with_reducible rfl))); simp only [List.getElem_toArray, List.getElem_cons_succ, List.getElem_cons_zero, Act.put, List.setIfInBounds_toArray, List.set_cons_zero, List.set_cons_succ])
      (refine wpAnyH_take (i := 3) (v := ?_) rfl (by kernel_rfl) (by kernel_rfl) (by kernel_rfl) (fun _ _ _ h => h) (Or.inl ⟨by rfl, ?_⟩) hH_ ?_; rotate_left; (focus (intro w_ hSw_; go_simp; try (with_reducible rfl))); simp only [List.getElem_toArray, List.getElem_cons_succ, List.getElem_cons_zero, Act.put, List.setIfInBounds_toArray, List.set_cons_zero, List.set_cons_succ])
      (refine wpAnyH_take (i := 4) (v := ?_) rfl (by kernel_rfl) (by kernel_rfl) (by kernel_rfl) (fun _ _ _ h => h) (Or.inl ⟨by rfl, ?_⟩) hH_ ?_; rotate_left; (focus (intro w_ hSw_; go_simp; try (with_reducible rfl))); simp only [List.getElem_toArray, List.getElem_cons_succ, List.getElem_cons_zero, Act.put, List.setIfInBounds_toArray, List.set_cons_zero, List.set_cons_succ])
      (refine wpAnyH_take (i := 5) rfl (by kernel_rfl) (by kernel_rfl) (by kernel_rfl) (fun _ _ _ h => h) (yieldsIf_load_cell (by rfl) 3 (.tmp 20) rfl (g2) (k * 129) rfl (.int .i64 (n : Int)) (run_isAgg_plain Try.underlying3 rfl) (fun W h => h.1)) hH_ ?_; simp only [List.getElem_toArray, List.getElem_cons_succ, List.getElem_cons_zero, Act.put, List.setIfInBounds_toArray, List.set_cons_zero, List.set_cons_succ])
      (refine wpAnyH_take (i := 6) (v := ?_) rfl (by kernel_rfl) (by kernel_rfl) (by kernel_rfl) (fun _ _ _ h => h) (Or.inl ⟨by rfl, ?_⟩) hH_ ?_; rotate_left; (focus (intro w_ hSw_; go_simp; try (with_reducible rfl))); simp only [List.getElem_toArray, List.getElem_cons_succ, List.getElem_cons_zero, Act.put, List.setIfInBounds_toArray, List.set_cons_zero, List.set_cons_succ])
      (refine wpAnyH_take (i := 7) (v := ?_) rfl (by kernel_rfl) (by kernel_rfl) (by kernel_rfl) (fun _ _ _ h => h) (Or.inl ⟨by rfl, ?_⟩) hH_ ?_; rotate_left; (focus (intro w_ hSw_; go_simp; try (with_reducible rfl))); simp only [List.getElem_toArray, List.getElem_cons_succ, List.getElem_cons_zero, Act.put, List.setIfInBounds_toArray, List.set_cons_zero, List.set_cons_succ])
      (refine wpAnyH_take (i := 8) (v := ?_) rfl (by kernel_rfl) (by kernel_rfl) (by kernel_rfl) (fun _ _ _ h => h) (Or.inl ⟨by rfl, ?_⟩) hH_ ?_; rotate_left; (focus (intro w_ hSw_; go_simp; try (with_reducible rfl))); simp only [List.getElem_toArray, List.getElem_cons_succ, List.getElem_cons_zero, Act.put, List.setIfInBounds_toArray, List.set_cons_zero, List.set_cons_succ])
      (refine wpAnyH_take (i := 9) (v := ?_) rfl (by kernel_rfl) (by kernel_rfl) (by kernel_rfl) (fun _ _ _ h => h) (Or.inl ⟨by rfl, ?_⟩) hH_ ?_; rotate_left; (focus (intro w_ hSw_; go_simp; try (with_reducible rfl))); simp only [List.getElem_toArray, List.getElem_cons_succ, List.getElem_cons_zero, Act.put, List.setIfInBounds_toArray, List.set_cons_zero, List.set_cons_succ])
      (refine wpAnyH_take (i := 10) rfl (by kernel_rfl) (by kernel_rfl) (by kernel_rfl) (fun _ _ _ h => h) (yieldsIf_load_mid (by rfl) 34 (.tmp 25) rfl (g2) (k * 129 + 1) rfl (secE x.2) _ (fun W h => h.2) Try.underlying34 rfl (by rw [List.length_map, HX.out]; exact dk_info)) hH_ ?_; simp only [List.getElem_toArray, List.getElem_cons_succ, List.getElem_cons_zero, Act.put, List.setIfInBounds_toArray, List.set_cons_zero, List.set_cons_succ])
      (refine wpAnyH_take (i := 11) (v := ?_) rfl (by kernel_rfl) (by kernel_rfl) (by kernel_rfl) (fun _ _ _ h => h) (Or.inl ⟨by rfl, ?_⟩) hH_ ?_; rotate_left; (focus (intro w_ hSw_; go_simp; try (with_reducible rfl))); simp only [List.getElem_toArray, List.getElem_cons_succ, List.getElem_cons_zero, Act.put, List.setIfInBounds_toArray, List.set_cons_zero, List.set_cons_succ])
      have H6 := H5.bigSet At.here n x.2 HNL.out (by rw [List.length_map]; exact HX.out)
      rw [← HS.out] at H6
      (refine wpAnyH_ready (rs := [12]) (by kernel_rfl) (by simp) ?_; refine AllReadyH.cons rfl (fun K hK => ?_) AllReadyH.nil; rw [if_pos (by rfl)]; refine wp_store_mid 34 (.tmp 27) (.tmp 26) rfl (g) (n * 128) ((secE x.2).toArray) rfl rfl (by rw [List.size_toArray, List.length_map, HX.out]; exact H5.bigThere At.here n HNL.out) (by rw [List.size_toArray, List.length_map, HX.out]; exact dk_info) (all_oneCell_toArray (secE_one _)) ?_; refine hK.out _ _ (wr_parts (rangeAt_below_ HRW.out H6.bel) HNN.out) (fun hH2_ => ?_); clear hK K hH_; have hH_ := hH2_; clear hH2_; try simp only [List.getElem_toArray, List.getElem_cons_succ, List.getElem_cons_zero, Act.put, List.setIfInBounds_toArray, List.set_cons_zero, List.set_cons_succ])
      refine wpAnyH_done (by kernel_rfl) ?_ _
      clear H5 hH_
      go_wp2
      exact ⟨⟨k + 1, by omega, by go_num, H6⟩, by simp [intOf]; omega⟩
    · obtain rfl : k = n2 := by omega
      have h6 : ws.take k = ws := List.take_of_length_le (by have := HN2.out; omega)
      rw [h6] at H4
      clear h6
      go_wp2
      go_ret
      exact ⟨g, c', by first | rfl | trivial, HH.out.join H4⟩

-- AUX MAY
-- needs: Cx.app_row Cx.putMap setCells_blk Only.setCells_ there_blk sec_info3 rangeAt_blk_
/-- A row of the call's own, that may begin in the middle of its block. -/
def offR {α : Type} (e sz : Nat) (enc : α → List Value) : Repr (List α) := ⟨fun w S v xs => (∀ x ∈ xs, (enc x).length = sz) ∧ ((v = .slice none 0 0 ∧ xs = []) ∨ ∃ (g o cap : Nat) (cur : Array Value), v = .slice (some ⟨g, o * sz, none⟩) xs.length cap ∧ S g ∧ w.heap[g]? = some (.cells cur e (0, 0)) ∧ xs.length ≤ cap ∧ o + cap ≤ maxLen ∧ cur.size = (o + cap) * sz ∧ (cur.toList.drop (o * sz)).take (xs.length * sz) = xs.flatMap enc),
  fun ⟨h1, h2⟩ k hd => ⟨h1, h2.imp id fun ⟨g, o, cap, cur, e1, e2, e3, e4⟩ => ⟨g, o, cap, cur, e1, e2, k.same_block e3 (hd g e2), e4⟩⟩⟩
theorem flat_at {α : Type} {enc : α → List Value} {sz : Nat} {xs : List α} (hx : ∀ x ∈ xs, (enc x).length = sz) {i : Nat} {x : α} (hi : xs[i]? = some x) {j : Nat} {u : Value} (hj : (enc x)[j]? = some u) : (xs.flatMap enc)[i * sz + j]? = some u := by
  have hi' := (List.getElem?_eq_some_iff.1 hi).1
  have hsplit : xs = xs.take i ++ x :: xs.drop (i + 1) := by
    have := List.getElem?_eq_some_iff.1 hi
    rw [← this.2, ← List.drop_eq_getElem_cons, List.take_append_drop]
  have hlen : ((xs.take i).flatMap enc).length = i * sz := by
    rw [flat_len (sz := sz) (fun y hy => hx y (List.mem_of_mem_take hy)), List.length_take, Nat.min_eq_left (by omega)]
  have hjl := (List.getElem?_eq_some_iff.1 hj).1
  rw [hsplit, List.flatMap_append, List.flatMap_cons, List.getElem?_append_right (by omega), hlen, Nat.add_sub_cancel_left, List.getElem?_append_left hjl]
  exact hj
theorem flat_drop {α : Type} {enc : α → List Value} {sz : Nat} {xs : List α} (hx : ∀ x ∈ xs, (enc x).length = sz) (k : Nat) (hk : k ≤ xs.length) : (xs.drop k).flatMap enc = (xs.flatMap enc).drop (k * sz) := by
  have h1 : xs.flatMap enc = (xs.take k).flatMap enc ++ (xs.drop k).flatMap enc := by rw [← List.flatMap_append, List.take_append_drop]
  have h2 : ((xs.take k).flatMap enc).length = k * sz := by rw [flat_len (sz := sz) (fun y hy => hx y (List.mem_of_mem_take hy)), List.length_take, Nat.min_eq_left hk]
  rw [h1, ← h2, List.drop_left]
section
variable {α : Type} {B : Nat} {w0 w : World} {m r : List Asr} {e sz : Nat} {enc : α → List Value} {xs : List α}
theorem Cx.offNil (e sz : Nat) (enc : α → List Value) (H : Cx B w0 w m) : Cx B w0 w (.own (offR e sz enc) (.slice none 0 0) [] :: m) :=
  ⟨H.bel, H.le, fun _ => False, ⟨(fun _ h => by cases h), .inl ⟨rfl, rfl⟩⟩, fun _ h => h.elim, H.sep.mono fun i hi => ⟨hi, fun h => h⟩⟩
theorem Cx.offLen {v : Value} (H : Cx B w0 w m) (k : At m (.own (offR e sz enc) v xs) r) :
    ∃ A c, v = .slice A xs.length c ∧ xs.length ≤ c ∧ (∀ x ∈ xs, (enc x).length = sz) ∧ (0 < xs.length → ∃ g o, A = some ⟨g, o * sz, none⟩ ∧ ∀ (i : Nat) (x : α), xs[i]? = some x → w.rangeAt g (o * sz + i * sz) (enc x)) := by
  obtain ⟨S, ⟨hx, h⟩, _⟩ := H.has k
  rcases h with ⟨rfl, rfl⟩ | ⟨g, o, cap, cur, rfl, _, hb, hc, _, hs, ht⟩
  · exact ⟨none, 0, rfl, Nat.le_refl _, hx, fun h => by simp at h⟩
  · refine ⟨_, cap, rfl, hc, hx, fun _ => ⟨g, o, rfl, fun i x hi j u hu => ?_⟩⟩
    rw [cell_of hb]
    have h1 := flat_at hx hi hu
    rw [← ht, List.getElem?_take] at h1
    split at h1
    · rw [List.getElem?_drop] at h1
      rw [Nat.add_assoc]
      simpa using h1
    · cases h1
theorem Cx.offLit {g : Nat} {cs : Array Value} (xs : List α) (H : Cx B w0 w m) (k : At m (.blk g (.cells cs e (0, 0))) r) (hcs : cs = (xs.flatMap enc).toArray) (hx : ∀ x ∈ xs, (enc x).length = sz) (hl : xs.length ≤ 1000000) :
    Cx B w0 w (.own (offR e sz enc) (.slice (some ⟨g, 0, none⟩) xs.length xs.length) xs :: r) := by
  subst hcs
  obtain ⟨S, ha, hs, _, hcl⟩ := (H.find k).open_
  have hf := flat_len hx
  exact hcl w [.own (offR e sz enc) _ xs] (Only.refl _ _) ⟨fun i => i = g, ⟨hx, .inr ⟨g, 0, xs.length, _, by rw [Nat.zero_mul], rfl, ha.2, Nat.le_refl _, by unfold maxLen; omega, by rw [Nat.zero_add]; simpa using hf, by rw [Nat.zero_mul, List.drop_zero, ← hf]; exact List.take_length⟩⟩, fun i hi => .inl (by subst hi; exact ha.1), trivial⟩
/-- A row from its k-th element on. -/
theorem Cx.offFrom {g off n c : Nat} (H : Cx B w0 w m) (k : At m (.own (offR e sz enc) (.slice (some ⟨g, off, none⟩) n c) xs) r) (i : Nat) (hi : i ≤ xs.length) :
    Cx B w0 w (.own (offR e sz enc) (.slice (some ⟨g, off + i * sz, none⟩) (xs.length - i) (c - i)) (xs.drop i) :: r) := by
  obtain ⟨S, ⟨hx, h⟩, hs, hr, hcl⟩ := (H.find k).open_
  rcases h with ⟨e1, _⟩ | ⟨g', o, cap, cur, e1, hS, hb, hc, hm, hsz, ht⟩
  · cases e1
  · injection e1 with e1 e2 e3
    injection e1 with e1
    injection e1 with e1 e4 _
    subst e1 e3 e4 e2
    refine hcl w [.own (offR e sz enc) _ _] (Only.refl _ _) ⟨S, ⟨fun y hy => hx y (List.mem_of_mem_drop hy), .inr ⟨g, o + i, c - i, cur, ?_, hS, hb, ?_, ?_, ?_, ?_⟩⟩, fun q hq => .inl hq, trivial⟩
    · rw [List.length_drop, Nat.add_mul]
    · rw [List.length_drop]; omega
    · omega
    · rw [hsz]; congr 1; omega
    · rw [List.length_drop, flat_drop hx i hi, ← ht, List.drop_take, List.drop_drop, Nat.sub_mul, Nat.add_mul]
theorem put_end {cur : Array Value} {F l : List Value} {p q : Nat} (h : (cur.toList.drop p).take q = F) (hF : F.length = q) (hr : p + q + l.length ≤ cur.size) : ((putAt cur (p + q) l).toList.drop p).take (q + l.length) = F ++ l := by
  have h1 : cur.toList = cur.toList.take p ++ (F ++ cur.toList.drop (p + q)) := by rw [← h, ← List.drop_drop, List.take_append_drop, List.take_append_drop]
  have hp : (cur.toList.take p).length = p := by rw [List.length_take, Array.length_toList]; omega
  generalize cur.toList.take p = P at h1 hp
  generalize cur.toList.drop (p + q) = R at h1
  simp only [putAt]
  rw [h1, ← hp, ← hF, ← List.append_assoc]
  have e1 : (P ++ F ++ R).take (P.length + F.length) = P ++ F := by rw [← List.length_append]; exact List.take_left
  rw [e1]
  generalize (P ++ F ++ R).drop (P.length + F.length + l.length) = T
  rw [List.append_assoc P F l, List.append_assoc P, List.drop_left, ← List.length_append]
  exact List.take_left
theorem Cx.offApp {size bytes g off n c : Nat} {z : Value} (H : Cx B w0 w m) (k : At m (.own (offR e size enc) (.slice (some ⟨g, off, none⟩) n c) xs) r) {P : Program} (t ty : TypeId)
    (ht : P.underlying t = some (.slice e)) (hi : (P.info? e).map (fun i => (i.zero, i.size, i.bytes)) = some (some z, size, bytes)) (hzs : z.cells.size = size) (hsz : 0 < size) (hby : bytes ≤ 100000000)
    (y : α) (a : Addr) (ca : Nat) (hy : (enc y).length = size) (hnews : ∀ j u, (enc y)[j]? = some u → w.cell? (a.add j) = some u) (h1 : ∀ u ∈ enc y, u.oneCell' = true) (h63 : xs.length + 1 ≤ 1000000) :
    ∃ g' off' c' w', (Builtin.append_ #[t, t] ty #[.slice (some ⟨g, off, none⟩) n c, .slice (some a) 1 ca]).run P w = .ok (.slice (some ⟨g', off', none⟩) (xs ++ [y]).length c') w' ∧ Cx B w0 w' (.own (offR e size enc) (.slice (some ⟨g', off', none⟩) (xs ++ [y]).length c') (xs ++ [y]) :: r) := by
  obtain ⟨i, hi, hzz⟩ := Option.map_eq_some_iff.1 hi
  simp only [Prod.mk.injEq] at hzz
  obtain ⟨S, ⟨hx, h⟩, hs, hr, hcl⟩ := (H.find k).open_
  have hx2 : ∀ x ∈ xs ++ [y], (enc x).length = size := by
    intro x hx'
    rcases List.mem_append.1 hx' with h | h
    · exact hx x h
    · rw [List.mem_singleton] at h; rw [h]; exact hy
  have hflat := flat_len hx
  have hfm : (xs ++ [y]).flatMap enc = xs.flatMap enc ++ enc y := by rw [List.flatMap_append, List.flatMap_singleton]
  rcases h with ⟨e1, _⟩ | ⟨g', o, cap, cur, e1, hS, hb, hc, hm, hcs, htk⟩
  · cases e1
  · injection e1 with e1 e2 e3
    injection e1 with e1
    injection e1 with e1 e4 _
    subst e1 e3 e4 e2
    by_cases hroom : xs.length + 1 ≤ c
    · have hend : o * size + xs.length * size + size ≤ cur.size := by rw [hcs, ← Nat.add_mul, ← Nat.succ_mul]; exact Nat.mul_le_mul_right _ (by omega)
      have hth := there_blk hb (o * size + xs.length * size) size hend
      have hrun := run_append_room_cells (P := P) w t ty e i ht hi g (o * size) xs.length c a 1 ca (enc y) (by rw [hzz.2.1, Nat.one_mul]; exact hy) hnews h1 hroom (by rw [hzz.2.1, hy]; exact fun j hj => (hth j hj).1) (by rw [hzz.2.1, hy]; exact fun j hj => (hth j hj).2)
      rw [hzz.2.1] at hrun
      refine ⟨g, o * size, c, _, by rw [List.length_append]; exact hrun, ?_⟩
      have hblk := setCells_blk (enc y) (o * size + xs.length * size) w cur hb (by rw [hy]; exact hend)
      refine hcl _ [.own (offR e size enc) _ (xs ++ [y])] ((Only.setCells_ (enc y) _ w (Only.refl _ _)).mono fun q hq => by subst hq; exact hS) ⟨S, ⟨hx2, .inr ⟨g, o, c, _, rfl, hS, hblk, ?_, hm, ?_, ?_⟩⟩, fun q hq => .inl hq, trivial⟩
      · rw [List.length_append]; exact hroom
      · simp only [putAt, List.size_toArray, List.length_append, List.length_take, List.length_drop, Array.length_toList]
        rw [hy]
        omega
      · have hpe := put_end (l := enc y) htk hflat (by rw [hy]; exact hend)
        rw [hfm, List.length_append, List.length_singleton, Nat.succ_mul, ← hpe, hy]
    · have hb1 : (xs.length + 1) * bytes ≤ 140737488355328 := Nat.le_trans (Nat.mul_le_mul h63 hby) (by decide)
      obtain ⟨v', w', hrun, hown, hgr⟩ := run_append_arg_grows (P := P) w t ty e i z size bytes ht hi hzz.1 hzz.2.1 hzz.2.2 hzs hsz ⟨g, o * size, none⟩ xs.length c (xs.flatMap enc) hflat
        (fun j u hu => by
          rw [Addr.add_mid, cell_of hb]
          rw [← htk, List.getElem?_take] at hu
          split at hu
          · rw [List.getElem?_drop] at hu; simpa using hu
          · cases hu) a 1 ca (enc y) (by rw [Nat.one_mul]; exact hy) hnews (by omega) (by unfold maxLen; omega) hb1
      rcases hown.2 with ⟨_, e2⟩ | ⟨g2, cap2, cur2, rfl, hbg, hgg, hnc, hcm, hcs2, htake⟩
      · omega
      · refine ⟨g2, 0, cap2, w', by rw [List.length_append]; exact hrun, hcl w' [.own (offR e size enc) _ (xs ++ [y])] (Only.of_grown hgr (fun q hq => by cases hq)) ⟨fun q => q = g2, ⟨hx2, .inr ⟨g2, 0, cap2, cur2, by rw [Nat.zero_mul], rfl, hgg, by rw [List.length_append]; exact hnc, by omega, by rw [Nat.zero_add]; exact hcs2, ?_⟩⟩, fun q hq => by subst hq; exact .inr ⟨hbg, blk_size hgg⟩, trivial⟩⟩
        rw [Nat.zero_mul, List.drop_zero, List.length_append, hfm]
        exact htake
end
abbrev mayP (V : Nat → Value) (x : Nat → List (List Int)) (r : List Asr) : List Asr := .own (offR 34 128 secE) (V 0) (x 0) :: .own (offR 34 128 secE) (V 1) (x 1) :: .own (offR 34 128 secE) (V 2) (x 2) :: .own (offR 34 128 secE) (V 3) (x 3) :: .own (offR 34 128 secE) (V 4) (x 4) :: .own (offR 34 128 secE) (V 5) (x 5) :: r
def may6 (V : Nat → Value) : Array Value := #[V 0, V 1, V 2, V 3, V 4, V 5]
def updV {α : Type} (V : Nat → α) (n : Nat) (v : α) : Nat → α := fun i => if i = n then v else V i
theorem may6_set (V : Nat → Value) (v : Value) : ∀ n, n < 6 → (may6 V).setIfInBounds n v = may6 (updV V n v)
  | 0, _ | 1, _ | 2, _ | 3, _ | 4, _ | 5, _ => rfl
  | n + 6, h => by omega
theorem may6_def (V : Nat → Value) : may6 V = [V 0, V 1, V 2, V 3, V 4, V 5].toArray := rfl
@[simp] theorem may6_size (V : Nat → Value) : (may6 V).size = 6 := rfl
theorem may6_at (V : Nat → Value) : ∀ n, n < 6 → (may6 V)[n]? = some (V n)
  | 0, _ | 1, _ | 2, _ | 3, _ | 4, _ | 5, _ => rfl
  | n + 6, h => by omega
/-- The row at n, taken out: and put back changed. -/
theorem Cx.mayOpen {B : Nat} {w0 w : World} {r : List Asr} {V : Nat → Value} {x : Nat → List (List Int)} (H : Cx B w0 w (mayP V x r)) (n : Nat) (hn : n < 6) :
    ∃ rest : List Asr, Cx B w0 w (.own (offR 34 128 secE) (V n) (x n) :: (rest ++ r)) ∧ ∀ {B' : Nat} {w0' w' : World} {r' : List Asr} {v' : Value} {ys : List (List Int)}, Cx B' w0' w' (.own (offR 34 128 secE) v' ys :: (rest ++ r')) → Cx B' w0' w' (mayP (updV V n v') (updV x n ys) r') := by
  rcases n with _ | _ | _ | _ | _ | _ | n
  · exact ⟨[.own _ (V 1) (x 1), .own _ (V 2) (x 2), .own _ (V 3) (x 3), .own _ (V 4) (x 4), .own _ (V 5) (x 5)], H.find At.here, fun H' => H'⟩
  · exact ⟨[.own _ (V 0) (x 0), .own _ (V 2) (x 2), .own _ (V 3) (x 3), .own _ (V 4) (x 4), .own _ (V 5) (x 5)], H.find (At.there At.here), fun H' => ((H').find (At.there At.here))⟩
  · exact ⟨[.own _ (V 0) (x 0), .own _ (V 1) (x 1), .own _ (V 3) (x 3), .own _ (V 4) (x 4), .own _ (V 5) (x 5)], H.find (At.there (At.there At.here)), fun H' => ((((H').find (At.there (At.there At.here)))).find (At.there (At.there At.here)))⟩
  · exact ⟨[.own _ (V 0) (x 0), .own _ (V 1) (x 1), .own _ (V 2) (x 2), .own _ (V 4) (x 4), .own _ (V 5) (x 5)], H.find (At.there (At.there (At.there At.here))), fun H' => ((((((H').find (At.there (At.there (At.there At.here))))).find (At.there (At.there (At.there At.here))))).find (At.there (At.there (At.there At.here))))⟩
  · exact ⟨[.own _ (V 0) (x 0), .own _ (V 1) (x 1), .own _ (V 2) (x 2), .own _ (V 3) (x 3), .own _ (V 5) (x 5)], H.find (At.there (At.there (At.there (At.there At.here)))), fun H' => ((((((((H').find (At.there (At.there (At.there (At.there At.here)))))).find (At.there (At.there (At.there (At.there At.here)))))).find (At.there (At.there (At.there (At.there At.here)))))).find (At.there (At.there (At.there (At.there At.here)))))⟩
  · exact ⟨[.own _ (V 0) (x 0), .own _ (V 1) (x 1), .own _ (V 2) (x 2), .own _ (V 3) (x 3), .own _ (V 4) (x 4)], H.find (At.there (At.there (At.there (At.there (At.there At.here))))), fun H' => ((((((((((H').find (At.there (At.there (At.there (At.there (At.there At.here))))))).find (At.there (At.there (At.there (At.there (At.there At.here))))))).find (At.there (At.there (At.there (At.there (At.there At.here))))))).find (At.there (At.there (At.there (At.there (At.there At.here))))))).find (At.there (At.there (At.there (At.there (At.there At.here))))))⟩
  · omega
theorem may_info : (Try.prog.info? 32).map (·.size) = some 6 := by kernel_rfl
theorem may_zero (W : World) : (zeroValue 32).run Try.prog W = .ok (.agg (may6 fun _ => .slice none 0 0)) W := by
  have h : (Try.prog.info? 32).map (·.zero) = some (some (.agg (may6 fun _ => .slice none 0 0))) := by kernel_rfl
  obtain ⟨i, hi, hz⟩ := Option.map_eq_some_iff.1 h
  simp [zeroValue, typeInfo, hi, hz]
theorem may_build (W : World) : (Instr.build 32 #[]).run Try.prog W = .ok (.agg (may6 fun _ => .slice none 0 0)) W := by
  refine run_build W _ _ _ ?_
  have h : (Try.prog.info? 32).map (·.zero) = some (some (.agg (may6 fun _ => .slice none 0 0))) := by kernel_rfl
  obtain ⟨i, hi, hz⟩ := Option.map_eq_some_iff.1 h
  have h2 : (Try.prog.info? 31).isSome = true := by kernel_rfl
  obtain ⟨j, hj⟩ := Option.isSome_iff_exists.1 h2
  unfold Program.built
  simp only [hi, Try.underlying32, hz, hj]
  unfold Instr.fill
  rfl
theorem may_slice1 (s : List Int) (hs : s.length = 128) (W : World) : (Instr.buildSlice 31 1 #[(0, .agg (u8A s))]).run Try.prog W = .ok (.slice (some ⟨W.heap.size, 0, none⟩) 1 1) (W.alloc (.cells (u8A s) 34)) :=
  run_buildSlice_one W 31 34 128 (.agg (u8A s)) (.agg (u8A sz0)) Try.underlying31 (by
    obtain ⟨it, hi, hz⟩ := Option.map_eq_some_iff.1 sec_info3
    simp only [Prod.mk.injEq] at hz
    rw [hi, Option.map_some, hz.1, hz.2.1]) (by rw [Value.cells, u8A_size, sz0_len]) (by rw [Value.cells, u8A_size, hs]) (by decide) (by decide)
theorem may_index (V : Nat → Value) (n : Nat) (hn : n < 6) (W : World) : (Instr.index 32 (.agg (may6 V)) (.int .i64 (n : Int))).run Try.prog W = .ok (V n) W := by
  have h2 : (Try.prog.info? 31).map (·.size) = some 1 := by kernel_rfl
  obtain ⟨j, hj, hjs⟩ := Option.map_eq_some_iff.1 h2
  have hag := run_isAgg_plain (P := Try.prog) (t := 31) Try.underlying31 rfl W
  simp [Instr.index, asIntOf, run_underlying Try.underlying32, sizeOf, typeInfo, hj, hjs, part, hag, hn]
  rcases n with _ | _ | _ | _ | _ | _ | n <;> first | rfl | omega
theorem run_slice_from {P : Program} (t e n : TypeId) (ht : P.underlying t = some (.slice e)) (hi : (P.info? e).map (·.size) = some n) (g off len cap l : Nat) (hl : l < len) (hc : len ≤ cap) (W : World) :
    (Instr.sliceAt t (.slice (some ⟨g, off, none⟩) len cap) (some (.int .i64 (l : Int))) none none).run P W = .ok (.slice (some ⟨g, off + l * n, none⟩) (len - l) (cap - l)) W := by
  obtain ⟨it, h1, h2⟩ := Option.map_eq_some_iff.1 hi
  have h0 : (0 : Int) ≤ (l : Int) := by omega
  have h3 : (l : Int) ≤ (len : Int) := by omega
  have hne : cap ≠ l := by omega
  have hA : (Instr.sliceAt t (.slice (some ⟨g, off, none⟩) len cap) (some (.int .i64 (l : Int))) none none).run P W = (Instr.slice t (.slice (some ⟨g, off, none⟩) len cap) (some (.int .i64 (l : Int))) none none).run P W := by
    simp [Instr.sliceAt, run_underlying ht]
  rw [hA]
  simp [Instr.slice, run_underlying ht, Instr.sliceBounds, run_sliceBound, h0, h3, sizeOf, typeInfo, h1, h2, hne, Addr.add]
theorem Dk.sure_len {B : Nat} {w0 w : World} {m r : List Asr} {v : Value} {d : Dk} (H : Cx B w0 w m) (k : At m (.own dkR v d) r) (i : Int) : (d.sure i).length = 128 := by
  obtain ⟨b, A, W, rfl, HWF, H0⟩ := H.openDk k
  exact H0.lookLen (x := (d.cnt, d.sure)) (by repeat (with_reducible (first | exact At.here | apply At.there))) i
/-- The disk and the rows of this law ahead of act k. -/
def WhOk (k : Nat) (d : Dk) (x : Nat → List (List Int)) : Prop := d.gone = false ∧ d.armed = false ∧ d.size = 6 ∧ d.cnt + d.waiting.length ≤ k ∧ ∀ i : Nat, i < 6 → 0 < (x i).length ∧ (x i).length ≤ k + 1 ∧ (x i)[(x i).length - 1]? = some (d.view i) ∧ d.sure i ∈ x i ∧ ∀ p ∈ d.waiting, p.1 = (i : Int) → p.2 ∈ x i
theorem WhOk.write {k : Nat} {d : Dk} {x : Nat → List (List Int)} (h : WhOk k d x) (n : Nat) (hn : n < 6) (s : List Int) : WhOk (k + 1) (d.write (n : Int) s) (updV x n (x n ++ [s])) := by
  obtain ⟨h1, h2, h3, h4, h5⟩ := h
  have hh : d.has (n : Int) = true := by unfold Dk.has; rw [h3]; exact decide_eq_true (by omega)
  have ho := Dk.off_no h1 h2
  obtain ⟨q1, q2, q3, q4, q5⟩ := Dk.write_rest (s := s) hh ho
  have hv := Dk.write_view (s := s) hh ho
  have hy := Dk.write_yes (s := s) hh ho
  have hsure : (d.write (n : Int) s).sure = d.sure := by rw [hy]; exact d.step_rest.2.2.1
  have hw : (d.write (n : Int) s).waiting = d.waiting ++ [((n : Int), s)] := by rw [hy]
  refine ⟨q1.trans h1, q2.trans h2, q3.trans h3, by rw [q4, q5]; omega, fun i hi => ?_⟩
  obtain ⟨g1, g2, g3, g4, g5⟩ := h5 i hi
  rw [hv, hsure, hw]
  by_cases e : i = n
  · subst e
    simp only [updV, if_pos]
    refine ⟨by simp, by simp; omega, by simp [updF], List.mem_append_left _ g4, fun p hp hpi => ?_⟩
    rcases List.mem_append.1 hp with hp | hp
    · exact List.mem_append_left _ (g5 p hp hpi)
    · rw [List.mem_singleton] at hp; subst hp; simp
  · have e2 : (i : Int) ≠ (n : Int) := by omega
    simp only [updV, if_neg e, updF, if_neg e2]
    refine ⟨g1, by omega, g3, g4, fun p hp hpi => ?_⟩
    rcases List.mem_append.1 hp with hp | hp
    · exact g5 p hp hpi
    · rw [List.mem_singleton] at hp; subst hp; exact absurd hpi.symm e2
theorem WhOk.flush {k : Nat} {d : Dk} {x : Nat → List (List Int)} (h : WhOk k d x) : WhOk (k + 1) d.flush (fun i => (x i).drop ((x i).length - 1)) := by
  obtain ⟨h1, h2, h3, h4, h5⟩ := h
  have ho := Dk.off_no h1 h2
  obtain ⟨q1, q2, q3, q4, q5⟩ := Dk.flush_rest ho
  refine ⟨q1.trans h1, q2.trans h2, q3.trans h3, by rw [q4, q5]; simp; omega, fun i hi => ?_⟩
  obtain ⟨g1, g2, g3, g4, g5⟩ := h5 i hi
  obtain ⟨v1, v2⟩ := Dk.flush_view ho (i : Int)
  have hd : (x i).drop ((x i).length - 1) = [d.view i] := by
    rw [List.drop_eq_getElem_cons (by omega), List.drop_of_length_le (by omega)]
    rw [List.getElem?_eq_getElem (by omega)] at g3
    rw [Option.some.inj g3]
  rw [v1, v2, q5]
  dsimp only
  rw [hd]
  exact ⟨by simp, by simp, by simp, by simp, fun p hp => by cases hp⟩
theorem setF_mem (kp : Nat → Bool) (ws : List (Int × List Int)) (f : Int → List Int) (l : List (List Int)) (i : Int) (hf : f i ∈ l) (hw : ∀ p ∈ ws, p.1 = i → p.2 ∈ l) : ∀ k, k ≤ ws.length → setF kp ws f k i ∈ l
  | 0, _ => hf
  | k + 1, hk => by
    have ih := setF_mem kp ws f l i hf hw k (by omega)
    unfold setF
    split
    · unfold updF
      split
      · rename_i e
        have hm : ws.getD k (0, sz0) ∈ ws := by rw [List.getD_eq_getElem?_getD, List.getElem?_eq_getElem (by omega), Option.getD_some]; exact List.getElem_mem _
        exact hw _ hm e.symm
      · exact ih
    · exact ih
theorem WhOk.crash {k : Nat} {d : Dk} {x : Nat → List (List Int)} (h : WhOk k d x) (l : List Bool) (i : Nat) (hi : i < 6) : (d.crash l).sure i ∈ x i ∧ (d.crash l).read i = ((d.crash l).sure i, none) := by
  obtain ⟨h1, h2, h3, h4, h5⟩ := h
  obtain ⟨g1, g2, g3, g4, g5⟩ := h5 i hi
  refine ⟨setF_mem (keepB l) d.waiting d.sure (x i) i g4 g5 _ (Nat.le_refl _), ?_⟩
  rw [Dk.read_view rfl (by unfold Dk.has Dk.crash Dk.settle; rw [h3]; exact decide_eq_true (by omega))]
  rfl
theorem WhOk.mono {k : Nat} {d : Dk} {x : Nat → List (List Int)} (h : WhOk k d x) : WhOk (k + 1) d x := ⟨h.1, h.2.1, h.2.2.1, Nat.le_succ_of_le h.2.2.2.1, fun i hi => ⟨(h.2.2.2.2 i hi).1, Nat.le_succ_of_le (h.2.2.2.2 i hi).2.1, (h.2.2.2.2 i hi).2.2⟩⟩
theorem WhOk.new : WhOk 0 (Dk.new 6) (fun _ => [sz0]) :=
  ⟨rfl, rfl, rfl, Nat.le_refl _, fun i _ => ⟨by simp, by simp, by simp [Dk.view, Dk.new, lastW], by simp [Dk.new], fun p hp => by cases hp⟩⟩
section
variable {P : Program} {ops : Array Oper} {o : Oper} {a : Act} {K : Act → World → Prop} {Q : Exit → Act → World → Prop} {B : Nat} {w0 W : World} {m r : List Asr}
theorem Cx.stepOff {α : Type} {e size bytes g off n c gl : Nat} {enc : α → List Value} {z : Value} (xs : List α) (y : α) (H : Cx B w0 W m) (k : At m (.own (offR e size enc) (.slice (some ⟨g, off, none⟩) n c) xs) r) (hw : Region.wanted o (yielded ops a.tmps) = true) (s x : Operand) (t : TypeId)
    (ho : o.op = .call { callee := .builtin .append, args := #[s, x], argTypes := #[t, t] }) (ht : P.underlying t = some (.slice e)) (hi : (P.info? e).map (fun i => (i.zero, i.size, i.bytes)) = some (some z, size, bytes)) (hzs : z.cells.size = size) (hsz : 0 < size) (hby : bytes ≤ 100000000)
    (hs : a.eval s = .slice (some ⟨g, off, none⟩) n c) (hx : a.eval x = .slice (some ⟨gl, 0, none⟩) 1 1) (hy : (enc y).length = size) (hr : W.rangeAt gl 0 (enc y)) (h1 : ∀ u ∈ enc y, u.oneCell' = true) (h63 : xs.length + 1 ≤ 1000000)
    (h : ∀ g' off' n' c' W', n' = (xs ++ [y]).length → Cx B w0 W' (.own (offR e size enc) (.slice (some ⟨g', off', none⟩) n' c') (xs ++ [y]) :: r) → K (a.put o.dst (.slice (some ⟨g', off', none⟩) n' c')) W') : if Region.wanted o (yielded ops a.tmps) = true then o.wp P a W K Q else K (a.put o.dst undef) W := by
  obtain ⟨g', off', c', w', hrun, H2⟩ := H.offApp k (P := P) t o.type ht hi hzs hsz hby y ⟨gl, 0, none⟩ 1 hy (fun j u hu => by rw [Addr.add_mid]; exact hr j u hu) h1 h63
  exact append_step_run hw s x t t ho _ _ _ hs hx hrun (h g' off' _ c' w' rfl H2)
end

-- AUX RP
theorem wr_info2 : (Try.prog.info? 87).map (fun i => (i.zero, i.size, i.bytes)) = some (some (.agg (wrC (0, sz0)).toArray), 129, 136) := by kernel_rfl
theorem rf_build (i : Int) (s : List Int) (hs : s.length = 128) (W : World) : (Instr.build 87 #[(0, .int .i64 i), (1, .agg (u8A s))]).run Try.prog W = .ok (.agg (wrC (i, s)).toArray) W := by
  refine run_build W _ _ _ ?_
  obtain ⟨it, hi, hz⟩ := Option.map_eq_some_iff.1 wr_info2
  simp only [Prod.mk.injEq] at hz
  have hp : (match Try.prog.underlying 87 with | some (.struct fields) => fields.toList.mapM (fun f => (Try.prog.info? f.type).map fun i => (f.offset, i.size)) | _ => none) = some [(0, 1), (1, 128)] := by kernel_rfl
  unfold Program.built
  simp only [hi, Try.underlying87, hz.1] at hp ⊢
  rw [hp]
  simp only [Value.cells]
  rw [fill_cons (off := 0) (size := 1) (by rfl) (by rfl) (by simp [wrC]), fill_cons (off := 1) (size := 128) (by rfl) (by simp [Value.cells, u8A_size, hs]) (by simp [putAt, wrC, Value.cells, sz0])]
  unfold Instr.fill
  simp [putAt, wrC, Value.cells, u8A, sz0, hs]
theorem rf_slice1 (x : Int × List Int) (hx : x.2.length = 128) (W : World) : (Instr.buildSlice 48 1 #[(0, .agg (wrC x).toArray)]).run Try.prog W = .ok (.slice (some ⟨W.heap.size, 0, none⟩) 1 1) (W.alloc (.cells (wrC x).toArray 87)) :=
  run_buildSlice_one W 48 87 129 (.agg (wrC x).toArray) (.agg (wrC (0, sz0)).toArray) Try.underlying48 (by
    obtain ⟨it, hi, hz⟩ := Option.map_eq_some_iff.1 wr_info2
    simp only [Prod.mk.injEq] at hz
    rw [hi, Option.map_some, hz.1, hz.2.1]) (by simp [Value.cells, wrC, sz0]) (by simp [Value.cells, wrC, hx]) (by decide) (by decide)

-- AUX RS
theorem Cx.genP {B : Nat} {w0 T : World} {n : Nat} {m : List Asr} {C : World → Prop} (h : CxS B w0 T n m) (k : ∀ w1, Cx B w0 w1 m → C w1) : C T := k T h.cx
theorem exec_load_cell {P : Program} {o : Oper} {ρ : Operand → Value} {w : World} (ty : TypeId) (x : Operand) (ho : o.op = .load ty x) (b i : Nat) (hx : ρ x = .pointer (some ⟨b, i, none⟩)) (v : Value) (hag : (isAgg ty).run P w = .ok false w) (hc : w.cell? ⟨b, i, none⟩ = some v) :
    (execOp ρ o).run P w = .ok (.value v) w := by
  have hl : (loadVar ty ⟨b, i, none⟩).run P w = .ok v w := by simp [loadVar, hag, hc]
  unfold execOp
  simp only [ho, hx, Instr.loadAt, Instr.sureAddr, Sem.run_bind, Sem.run_pure, Result.andThen_ok, hl]
theorem rowAt_one {α : Type} {sz : Nat} {enc : α → List Value} {W : World} {g e : Nat} {x : α} (h : W.heap[g]? = some (.cells (enc x).toArray e (0, 0))) (hl : (enc x).length = sz) : rowAt sz enc W (some ⟨g, 0, none⟩) 1 1 [x] :=
  ⟨rfl, Nat.le_refl _, fun y hy => by rw [List.mem_singleton] at hy; subst hy; exact hl, fun i y hy => by
    rcases i with _ | i
    · simp only [List.getElem?_cons_zero, Option.some.injEq] at hy
      subst hy
      exact ⟨g, rfl, fun j u hu => by rw [Nat.zero_mul, Nat.zero_add, cell_of h]; simpa using hu⟩
    · simp at hy⟩
section
variable {P : Program} {ops : Array Oper} {o : Oper} {a : Act} {K : Act → World → Prop} {Q : Exit → Act → World → Prop} {B : Nat} {w0 W : World} {m r : List Asr}
theorem Cx.stepNil {α : Type} {e sz : Nat} {enc : α → List Value} (H : Cx B w0 W m) (hw : Region.wanted o (yielded ops a.tmps) = true) (t : TypeId) (ho : o.op = .buildSlice t 0 #[])
    (hrun : ∀ W, (Instr.buildSlice t 0 #[]).run P W = .ok (.slice (some ⟨W.heap.size, 0, none⟩) 0 0) (W.alloc (.cells #[] e)))
    (h : ∀ g W', Cx B w0 W' (.own (bigR e sz enc) (.slice (some ⟨g, 0, none⟩) 0 0) [] :: m) → K (a.put o.dst (.slice (some ⟨g, 0, none⟩) 0 0)) W') : if Region.wanted o (yielded ops a.tmps) = true then o.wp P a W K Q else K (a.put o.dst undef) W :=
  step_exec hw (exec_buildSlice t 0 #[] ho #[] rfl (hrun W)) (h _ _ ((H.toS.alloc (.cells #[] e (0, 0))).cx.bigLit (xs := []) At.here rfl (fun _ h => by cases h) (by simp)))
theorem Cx.stepOne {e : Nat} {v : Value} {cs : Array Value} (H : Cx B w0 W m) (hw : Region.wanted o (yielded ops a.tmps) = true) (t : TypeId) (x : Operand) (ho : o.op = .buildSlice t 1 #[(0, x)]) (hx : a.eval x = v)
    (hrun : ∀ W, (Instr.buildSlice t 1 #[(0, v)]).run P W = .ok (.slice (some ⟨W.heap.size, 0, none⟩) 1 1) (W.alloc (.cells cs e)))
    (h : ∀ g W', Cx B w0 W' (.blk g (.cells cs e (0, 0)) :: m) → K (a.put o.dst (.slice (some ⟨g, 0, none⟩) 1 1)) W') : if Region.wanted o (yielded ops a.tmps) = true then o.wp P a W K Q else K (a.put o.dst undef) W := by
  subst hx
  exact step_exec hw (exec_buildSlice t 1 #[(0, x)] ho #[(0, a.eval x)] rfl (hrun W)) (h _ _ (H.toS.alloc (.cells cs e (0, 0))).cx)
theorem Cx.stepApp {α : Type} {e size bytes n c n2 c2 g : Nat} {enc : α → List Value} {A2 : Option Addr} {z : Value} (xs ys : List α) (H : Cx B w0 W m) (k : At m (.own (bigR e size enc) (.slice (some ⟨g, 0, none⟩) n c) xs) r) (hw : Region.wanted o (yielded ops a.tmps) = true) (s x : Operand) (t : TypeId)
    (ho : o.op = .call { callee := .builtin .append, args := #[s, x], argTypes := #[t, t] }) (ht : P.underlying t = some (.slice e)) (hi : (P.info? e).map (fun i => (i.zero, i.size, i.bytes)) = some (some z, size, bytes)) (hzs : z.cells.size = size) (hsz : 0 < size) (hby : bytes ≤ 100000000)
    (hs : a.eval s = .slice (some ⟨g, 0, none⟩) n c) (hx : a.eval x = .slice A2 n2 c2) (hr : rowAt size enc W A2 n2 c2 ys) (hnil : n2 = 0 → A2 = none ∧ c2 = 0) (h1 : ∀ y ∈ ys, ∀ u ∈ enc y, u.oneCell' = true) (h63 : xs.length + ys.length ≤ 1000000)
    (h : ∀ g' n' c' W', n' = (xs ++ ys).length → Cx B w0 W' (.own (bigR e size enc) (.slice (some ⟨g', 0, none⟩) n' c') (xs ++ ys) :: r) → K (a.put o.dst (.slice (some ⟨g', 0, none⟩) n' c')) W') : if Region.wanted o (yielded ops a.tmps) = true then o.wp P a W K Q else K (a.put o.dst undef) W := by
  obtain ⟨g', c', w', hrun, H2⟩ := Cx.app_row H k (P := P) t o.type ht hi hzs hsz hby hr hnil h1 h63
  exact append_step_run hw s x t t ho _ _ _ hs hx hrun (h g' _ c' w' rfl H2)
end
theorem rf_slice0 (W : World) : (Instr.buildSlice 48 0 #[]).run Try.prog W = .ok (.slice (some ⟨W.heap.size, 0, none⟩) 0 0) (W.alloc (.cells #[] 87)) := by
  obtain ⟨it, hi, hz⟩ := Option.map_eq_some_iff.1 wr_info2
  simp only [Prod.mk.injEq] at hz
  simp [Instr.buildSlice, run_underlying Try.underlying48, sizeOf, typeInfo, hi, hz.2.1, Instr.fill, newRow]
  rw [show (Array.range 0) = (#[] : Array Nat) from by decide]
  simp

-- AUX RC
/-- The writes that are kept, of the first k. -/
def keptL (kp : Nat → Bool) (ws : List (Int × List Int)) : Nat → List (Int × List Int)
  | 0 => []
  | k + 1 => if kp k = true then keptL kp ws k ++ [ws.getD k (0, sz0)] else keptL kp ws k
theorem keptL_mem {kp : Nat → Bool} {ws : List (Int × List Int)} : ∀ {k : Nat}, k ≤ ws.length → ∀ p ∈ keptL kp ws k, p ∈ ws
  | 0, _, p, h => by cases h
  | k + 1, hk, p, h => by
    unfold keptL at h
    split at h
    · rcases List.mem_append.1 h with h | h
      · exact keptL_mem (by omega) p h
      · rw [List.mem_singleton] at h
        subst h
        rw [List.getD_eq_getElem?_getD, List.getElem?_eq_getElem (by omega), Option.getD_some]
        exact List.getElem_mem _
    · exact keptL_mem (by omega) p h
theorem keptL_len {kp : Nat → Bool} {ws : List (Int × List Int)} : ∀ k, (keptL kp ws k).length ≤ k
  | 0 => Nat.le_refl _
  | k + 1 => by
    have := keptL_len (kp := kp) (ws := ws) k
    unfold keptL
    split
    · rw [List.length_append]; simp; omega
    · omega
theorem gate_bs {P : Program} {w : World} {ops : Array Oper} {rest : List Oper} {o : Oper} {a : Act} {Q : Exit → Act → World → Prop} {t : TypeId} {n : Nat} {ps : Array (Nat × Operand)} (_ho : o.op = .buildSlice t n ps) (h : wpList P ops Q (o :: rest) a w) : wpList P ops Q (o :: rest) a w := h
set_option maxRecDepth 100000 in
set_option maxHeartbeats 8000000 in
theorem rf_crash {B : Nat} {w0 w : World} {m : List Asr} (x : Rf) (g1 n1 c1 : Nat) (A2 : Option Addr) (n2 c2 : Nat) (A0 : Option Addr) (N c : Nat) (l : List Bool) (H : Cx B w0 w m) (h1 : rowAt 128 secE w (some ⟨g1, 0, none⟩) n1 c1 x.secs) (h2 : rowAt 129 wrC w A2 n2 c2 x.waiting) (hkeep : Kd.C Kd.bool w A0 N l)
    (hin : ∀ p ∈ x.waiting, 0 ≤ p.1 ∧ p.1 < n1) (hl1 : 0 < n1 ∧ n1 ≤ 100000) (hl2 : n2 ≤ 100000) :
    Calls Try.prog 36 #[.agg (rfC (some ⟨g1, 0, none⟩) n1 c1 A2 n2 c2 x.steps x.left x.armed x.gone), .slice A0 N c] w fun e w1 => ∃ g c, e = .returned (.agg (rfC (some ⟨g, 0, none⟩) n1 c none 0 0 x.steps x.left false false)) ∧ Cx B w0 w1 (.own secsR (.slice (some ⟨g, 0, none⟩) n1 c) (doneL x.secs (keptL (keepB l) x.waiting n2)) :: m) := by
  have Hc := Cx.start w
  have hu := Try.underlying50
  have HH := Aside0.mk H
  have HR1 := Aside0.mk h1
  have HR2 := Aside0.mk h2
  have HI := Aside0.mk hin
  have HK := Aside0.mk hkeep
  have HL := Aside0.mk (And.intro hl1 hl2)
  have hkn := hkeep.1
  have HN2 := Aside0.mk h2.1
  have hn2b : n2 ≤ 100000 := hl2
  clear H h1 h2 hin hl1 hl2 hkeep
  go_enter Try.func36, Try.ntmps36
  go_wp2_with fail
  have H3 := ((Hc.toS.alloc (.cells (rfC (some ⟨g1, 0, none⟩) n1 c1 A2 n2 c2 x.steps x.left x.armed x.gone) 50 (0, 0))).alloc (.cells (rfC none 0 0 none 0 0 0 0 false false) 50 (0, 0))).cx.bigNil 87 129 wrC
  clear Hc
  go_loopw [5, 6] (fun v5 v6 wr => ∃ (k : Nat) (A3 : Option Addr) (n3 c3 : Nat), k ≤ n2 ∧ v6 = .int .i64 k ∧ v5 = .slice A3 n3 c3 ∧ Aside0 ((n3 = 0 → A3 = none ∧ c3 = 0) ∧ n3 = (keptL (keepB l) x.waiting k).length) ∧ Cx w.heap.size w wr [.own rwaitR (.slice A3 n3 c3) (keptL (keepB l) x.waiting k), .blk (w.heap.size + 1) (.cells (rfC none 0 0 none 0 0 0 0 false false) 50 (0, 0)), .blk w.heap.size (.cells (rfC (some ⟨g1, 0, none⟩) n1 c1 A2 n2 c2 x.steps x.left x.armed x.gone) 50 (0, 0))]) (fun _ v6 _ => n2 - (intOf v6).toNat)
  case atStart => exact ⟨0, none, 0, 0, by omega, rfl, rfl, ⟨fun _ => ⟨rfl, rfl⟩, rfl⟩, H3⟩
  case round =>
    clear H3
    obtain ⟨k, A3, n3, c3, hk, rfl, rfl, HN3, H4⟩ := hrel
    have k0 : (0 : Int) ≤ (k : Int) := by omega
    have HKB := Kd.C_below HK.out H4.bel
    have F := (H4).facts; simp only [factsOf, Asr.facts, blkFacts, cellsAre, List.toList_toArray, forall_const, Nat.zero_add, Nat.reduceAdd, and_true, true_and] at F
    by_cases hlt : k < n2
    · have k1 : (k : Int) < (n2 : Int) := by omega
      by_cases hkn2 : k < N
      · obtain ⟨ad, e, hb⟩ := Kd.at_bool HKB (k : Int) (by omega) (by omega)
        subst e
        rw [Int.toNat_natCast, show rdOf false l (k : Int) = keepB l k by simp [rdOf, keepB]] at hb
        have hk2 : (k : Int) < (N : Int) := by omega
        clear HKB hkn2
        cases hkp : keepB l k
        · rw [hkp] at hb
          go_wp2
          refine ⟨⟨k + 1, A3, n3, c3, by omega, by go_num, rfl, ?_, ?_⟩, by simp [intOf]; omega⟩
          · exact ⟨HN3.out.1, by rw [show keptL (keepB l) x.waiting (k + 1) = keptL (keepB l) x.waiting k by simp [keptL, hkp]]; exact HN3.out.2⟩
          · rw [show keptL (keepB l) x.waiting (k + 1) = keptL (keepB l) x.waiting k by simp [keptL, hkp]]; exact H4
        · rw [hkp] at hb
          obtain ⟨p, hp⟩ : ∃ p, x.waiting[k]? = some p := ⟨_, List.getElem?_eq_getElem (by have := HN2.out; omega)⟩
          have HRB := HR2.out.below H4.bel
          obtain ⟨g2, rfl, hr⟩ := HRB.2.2.2 k p hp
          have hpl : (wrC p).length = 129 := HRB.2.2.1 p (List.mem_of_getElem? hp)
          have hp2 : p.2.length = 128 := by simpa [wrC] using hpl
          have HPL := Aside0.mk hpl
          have HP2 := Aside0.mk hp2
          have HKS : Aside0 (keptL (keepB l) x.waiting (k + 1) = keptL (keepB l) x.waiting k ++ [p]) := ⟨by simp [keptL, hkp, List.getD_eq_getElem?_getD, hp]⟩
          have hbs := fun W => rf_slice1 p hp2 W
          have hlk := keptL_len (kp := keepB l) (ws := x.waiting) k
          have HLK := Aside0.mk hlk
          clear hpl hp2 hp HRB hlk
          go_wp2_with (first
            | ((with_reducible refine gate_load (t := 87) (x := .tmp 28) rfl ?_); refine wpList_load_mid rfl 87 (.tmp 28) rfl (g2) (k * 129) rfl (wrC p) _ (hr) Try.underlying87 rfl (by rw [HPL.out]; kernel_rfl) ?_)
            | ((with_reducible refine gate_bs (t := 48) (n := 1) rfl ?_); refine wpList_exec_value rfl (exec_buildSlice 48 1 #[(0, .tmp 29)] rfl #[(0, .agg (wrC p).toArray)] rfl (hbs _)) ?_)
            | ((with_reducible refine gate_builtin (b := .append) (xs := #[.tmp 24, .tmp 30]) rfl ?_); at_builtin; (apply Cx.atList); (focus ((repeat (with_reducible (first | exact (H4).toS | exact At.here | apply At.there | apply CxS.drewN | apply CxS.drew | apply CxS.alloc | apply CxS.set | apply CxS.setRow))))); intro HT_; obtain ⟨v', w', hrun, hiff, H5⟩ := HT_.app_big (e := 87) (size := 129) (enc := wrC) (v := .slice A3 n3 c3) (xs := keptL (keepB l) x.waiting k) (by repeat (with_reducible (first | exact At.here | apply At.there))) (P := Try.prog) 48 48 Try.underlying48 wr_info2 (by simp [Value.cells, wrC, sz0]) (by decide) (by decide) [p] ⟨wr.heap.size, 0, none⟩ 1 1 rfl (fun y hy => by rw [List.mem_singleton] at hy; subst hy; exact HPL.out) (row_news (rowAt_one (HT_.blk (b := wr.heap.size) (o := .cells (wrC p).toArray 87 (0, 0)) (by repeat (with_reducible (first | exact At.here | apply At.there)))) HPL.out)) (by rw [List.flatMap_singleton]; exact wrC_one p) (by have := HLK.out; have := HL.out; simp; omega); refine wpList_append_run rfl (.tmp 24) (.tmp 30) 48 48 rfl _ _ _ rfl rfl hrun ?_; clear hrun HT_))
          obtain ⟨A4, c4, rfl, _, _, hsome⟩ := H5.bigLen At.here
          rw [← HKS.out] at H5 hsome ⊢
          refine ⟨⟨k + 1, A4, _, c4, by omega, by go_num, rfl, ⟨fun h => ?_, rfl⟩, ?_⟩, by simp [intOf]; omega⟩
          · rw [HKS.out, List.length_append] at h; simp at h
          · exact (H5.drop (a := .blk wr.heap.size (.cells (wrC p).toArray 87 (0, 0))) (by repeat (with_reducible (first | exact At.here | apply At.there))))
      · have hk2 : ¬ (k : Int) < (N : Int) := by omega
        have hkp : keepB l k = false := by simp [keepB, List.getElem?_eq_none (show l.length ≤ k by omega)]
        have HKS : Aside0 (keptL (keepB l) x.waiting (k + 1) = keptL (keepB l) x.waiting k) := ⟨by simp [keptL, hkp]⟩
        clear hkp HKB hkn2
        go_wp2
        refine ⟨⟨k + 1, A3, n3, c3, by omega, by go_num, rfl, ?_, ?_⟩, by simp [intOf]; omega⟩
        · exact ⟨HN3.out.1, by rw [HKS.out]; exact HN3.out.2⟩
        · rw [HKS.out]; exact H4
    · obtain rfl : k = n2 := by omega
      have hlk := keptL_len (kp := keepB l) (ws := x.waiting) k
      have HLK := Aside0.mk hlk
      have HMEM : Aside0 (∀ p ∈ keptL (keepB l) x.waiting k, 0 ≤ p.1 ∧ p.1 < n1) := ⟨fun p hp => HI.out p (keptL_mem (by have := HN2.out; omega) p hp)⟩
      clear hlk HKB
      go_wp2_with fail
      refine (rf_done g1 n1 c1 A3 n3 c3 x.secs _ H4 (HR1.out.below H4.bel) (H4.rowOf At.here) HMEM.out HL.out.1 (by have := HLK.out; have := HN3.out.2; have := HL.out.2; omega)).mono ?_
      rintro e we ⟨g, c, rfl, H5⟩
      clear F
      have H6 := H5.find (a := .blk w.heap.size (.cells (rfC (some ⟨g1, 0, none⟩) n1 c1 A2 k c2 x.steps x.left x.armed x.gone) 50 (0, 0))) (by repeat (with_reducible (first | exact At.here | apply At.there)))
      have H7 := H6.find (a := .blk (w.heap.size + 1) (.cells (rfC none 0 0 none 0 0 0 0 false false) 50 (0, 0))) (by repeat (with_reducible (first | exact At.here | apply At.there)))
      clear H5 H6
      have F := (H7).facts; simp only [factsOf, Asr.facts, blkFacts, cellsAre, List.toList_toArray, forall_const, Nat.zero_add, Nat.reduceAdd, and_true, true_and] at F
      go_wp2
      ((try simp only [Exit.inBlock, Exit.then]); (apply Cx.atPost); (focus ((repeat (with_reducible (first | exact (H7).toS | exact At.here | apply At.there | apply CxS.drewN | apply CxS.drew | apply CxS.alloc | apply CxS.set | apply CxS.setRow))))); intro HT)
      try simp only [List.setIfInBounds_toArray, List.set_cons_zero, List.set_cons_succ] at HT
      exact bodyPost_ret (results_cell_row rfl _ _ (w.heap.size + 1) _ _ (0, 0) _ rfl (HT.blk (b := w.heap.size + 1) At.here) Try.underlying50 rfl rf_info) rfl ⟨g, c, by first | rfl | trivial, HH.out.join (HT.head (a := .own secsR (.slice (some ⟨g, 0, none⟩) n1 c) _) (by repeat (with_reducible (first | exact At.here | apply At.there))))⟩

-- AUX RGN
-- Regions that draw their order: what the loads lean on need stand only till an operation comes up that waits for all of them.
section
variable {P : Program} {ops : Array Oper} {Q : Exit → Act → World → Prop} {S S2 : World → Prop} {I I2 : List Nat}
def hasEdge (ops : Array Oper) (k i : Nat) : Bool := match ops[k]? with
  | none => false
  | some o => o.after.any fun e => Region.binds .any e && e.on == i
/-- What comes up ahead of one of S, in whatever order, as far as it stands below number n. -/
def ancUp (ops : Array Oper) : Nat → List Nat → List Nat
  | 0, S => S
  | i + 1, S => if S.any (fun k => hasEdge ops k i) = true then ancUp ops i (i :: S) else ancUp ops i S
def closedB (ops : Array Oper) (L : Array Bool) : Bool := (List.range ops.size).all fun j => !L.getD j false || match ops[j]? with
  | none => true
  | some o => o.after.all fun e => !Region.binds .any e || L.getD e.on false
def allAhead (ops : Array Oper) (I : List Nat) (j : Nat) : Bool := I.all fun i => i != j && (ancUp ops j [j]).contains i
def goneB (ops : Array Oper) (I : List Nat) (L : Array Bool) : Bool := (List.range ops.size).any fun j => L.getD j false && allAhead ops I j
theorem closedB_spec {L : Array Bool} (h : closedB ops L = true) {j : Nat} {o : Oper} (hj : L.getD j false = true) (ho : ops[j]? = some o) (e : Edge) (he : e ∈ o.after) (hb : Region.binds .any e = true) : L.getD e.on false = true := by
  unfold closedB at h
  rw [List.all_eq_true] at h
  have h1 := h j (List.mem_range.2 (Array.getElem?_eq_some_iff.1 ho).1)
  simp only [hj, ho, Bool.not_true, Bool.false_or, Array.all_eq_true_iff_forall_mem] at h1
  have := h1 e he
  simpa [hb] using this
theorem ancUp_in {L : Array Bool} (hc : closedB ops L = true) : ∀ (n : Nat) (S : List Nat), (∀ k ∈ S, L.getD k false = true) → ∀ k ∈ ancUp ops n S, L.getD k false = true := by
  intro n
  induction n with
  | zero => exact fun S h => h
  | succ n ih =>
    intro S h
    unfold ancUp
    split
    · rename_i hany
      refine ih _ fun k hk => ?_
      rcases List.mem_cons.1 hk with rfl | hk
      · obtain ⟨q, hq, he⟩ := List.any_eq_true.1 hany
        unfold hasEdge at he
        split at he
        · cases he
        · rename_i o ho
          obtain ⟨e, hm, hb⟩ := Array.any_eq_true'.1 he
          simp only [Bool.and_eq_true, beq_iff_eq] at hb
          rw [← hb.2]
          exact closedB_spec hc (h q hq) ho e hm hb.1
      · exact h k hk
    · exact ih _ h
theorem getD_two (L : Array Bool) (i : Nat) (h : i < L.size) : (L.setIfInBounds i true).getD i false = true := by simp [h]
/-- What is listed stays closed. -/
theorem closedB_ready {L : Array Bool} {i : Nat} (hc : closedB ops L = true) (hr : i ∈ Region.ready .any ops L) : closedB ops (L.setIfInBounds i true) = true := by
  obtain ⟨h0, oi, hoi, hall⟩ := mem_ready.1 hr
  unfold closedB
  rw [List.all_eq_true]
  intro j hj
  cases ho : ops[j]? with
  | none => simp
  | some o =>
    cases hl : (L.setIfInBounds i true).getD j false with
    | false => rfl
    | true =>
      simp only [Bool.not_true, Bool.false_or, Array.all_eq_true_iff_forall_mem]
      intro e he
      cases hb : Region.binds .any e with
      | false => rfl
      | true =>
        simp only [Bool.not_true, Bool.false_or]
        by_cases hij : i = j
        · subst hij
          rw [hoi] at ho
          cases ho
          exact getD_set_true (hall e he hb)
        · rw [getD_set_ne false hij] at hl
          exact getD_set_true (closedB_spec hc hl ho e he hb)
theorem goneB_set {L : Array Bool} {i : Nat} (h : goneB ops I L = true) : goneB ops I (L.setIfInBounds i true) = true := by
  unfold goneB at *
  rw [List.any_eq_true] at *
  obtain ⟨j, hj, h⟩ := h
  rw [Bool.and_eq_true] at h
  exact ⟨j, hj, by rw [Bool.and_eq_true]; exact ⟨getD_set_true h.1, h.2⟩⟩
/-- Whatever order is picked from here on; behind each operation that is carried out S holds, or what needed it has come up. -/
def wpAnyD (P : Program) (ops : Array Oper) (Q : Exit → Act → World → Prop) (S : World → Prop) (I : List Nat) : Nat → Array Bool → Act → World → Prop
  | 0, listed, a, w => Region.ready .any ops listed = [] ∧ Q .normal a w
  | fuel + 1, listed, a, w =>
    (Region.ready .any ops listed = [] → Q .normal a w) ∧
    ∀ i ∈ Region.ready .any ops listed, wpOp P ops Q i (fun a' w' => (S w' ∨ goneB ops I (listed.setIfInBounds i true) = true) ∧ wpAnyD P ops Q S I fuel (listed.setIfInBounds i true) a' w') a w
theorem wpAny_of_D : ∀ (fuel : Nat) (listed : Array Bool) (a : Act) (w : World), wpAnyD P ops Q S I fuel listed a w → wpAny P .any ops Q fuel listed a w
  | 0, _, _, _, h => h
  | fuel + 1, _, _, _, h => ⟨h.1, fun i hi => wpOp_mono (fun a' w' h' => wpAny_of_D fuel _ a' w' h'.2) (h.2 i hi)⟩
/-- Another condition, where the elder one is needed no more or follows. -/
theorem wpAnyD_turn : ∀ (fuel : Nat) (listed : Array Bool) (a : Act) (w : World), (goneB ops I listed = true ∨ ((∀ w, S2 w → S w) ∧ ∀ L, goneB ops I2 L = true → goneB ops I L = true)) →
    wpAnyD P ops Q S2 I2 fuel listed a w → wpAnyD P ops Q S I fuel listed a w
  | 0, _, _, _, _, h => h
  | fuel + 1, listed, _, _, hg, h => ⟨h.1, fun i hi => wpOp_mono (fun a' w' h' => ⟨by
      rcases hg with hg | ⟨h1, h2⟩
      · exact .inr (goneB_set hg)
      · exact h'.1.imp (h1 w') (h2 _), wpAnyD_turn fuel _ a' w' (hg.imp goneB_set id) h'.2⟩) (h.2 i hi)⟩
theorem wpAnyD_first {i : Nat} {oi : Oper} {v : Value} {T : World → Prop} (hi : ops[i]? = some oi) (hsel : ∀ (j : Nat) (o : Oper) cs b, ops[j]? = some o → o.op ≠ .select cs b)
    (hQ : ∀ c a w, Q (.panic c) (a.put oi.dst v) w → Q (.panic c) a w) (hD : allAhead ops I i = false) (hT : (I.contains i = true ∧ ∀ w, S w → T w) ∨ ∀ w, T w) :
    ∀ (fuel : Nat) (listed : Array Bool) (a : Act) (w : World), closedB ops listed = true →
      (∀ j oj, ops[j]? = some oj → j ≠ i → listed.getD j true = false → (∀ e ∈ oj.after, Region.binds .any e = true → e.on ≠ i) → oi.apart ops oj = true) →
      i ∈ Region.ready .any ops listed → YieldsIf P ops T oi v a → T w →
      wpAnyD P ops Q S I fuel (listed.setIfInBounds i true) (a.put oi.dst v) w → (S w ∨ goneB ops I (listed.setIfInBounds i true) = true) → wpAnyD P ops Q S I (fuel + 1) listed a w := by
  intro fuel
  induction fuel with
  | zero =>
    intro listed a w _ _ hr hy hS H hg
    refine ⟨fun h => (by rw [h] at hr; cases hr), fun j hj => ?_⟩
    by_cases hji : j = i
    · subst hji; exact hy.wpOp hi hS ⟨hg, H⟩
    · have := ready_mono hj hji
      rw [H.1] at this
      cases this
  | succ fuel ih =>
    intro listed a w hc hfree hr hy hS H hg
    refine ⟨fun h => (by rw [h] at hr; cases hr), fun j hj => ?_⟩
    by_cases hji : j = i
    · subst hji; exact hy.wpOp hi hS ⟨hg, H⟩
    · have h1 := H.2 j (ready_mono hj hji)
      obtain ⟨hjun, oj, hoj, hall⟩ := mem_ready.1 hj
      obtain ⟨hiun, _⟩ := mem_ready.1 hr
      have hnot : ∀ e ∈ oj.after, Region.binds .any e = true → e.on ≠ i := fun e he hb heq => by
        have h1 := hall e he hb
        rw [heq] at h1
        rcases Nat.lt_or_ge i listed.size with h' | h'
        · simp [h'] at hiun h1; rw [hiun] at h1; cases h1
        · simp [Array.getElem?_eq_none h'] at h1
      have h2 := wpOp_putIf hoj (hfree j oj hoj hji hjun hnot) (fun cs b => hsel i oi cs b hi) (fun cs b => hsel j oj cs b hoj) hQ hy h1
      have hfree' : ∀ k ok, ops[k]? = some ok → k ≠ i → (listed.setIfInBounds j true).getD k true = false →
          (∀ e ∈ ok.after, Region.binds .any e = true → e.on ≠ i) → oi.apart ops ok = true := fun k ok hk hki hun hno => by
        refine hfree k ok hk hki ?_ hno
        by_cases hjk : j = k
        · subst hjk; exact hjun
        · rw [getD_set_ne true hjk] at hun; exact hun
      have hcj := closedB_ready hc hj
      have hilt : i < listed.size := by
        rcases Nat.lt_or_ge i listed.size with h' | h'
        · exact h'
        · simp [Array.getElem?_eq_none h'] at hiun
      have hiun2 : (listed.setIfInBounds j true).getD i false = false := by
        rw [getD_set_ne false hji]
        simpa [hilt] using hiun
      have hgone : goneB ops I ((listed.setIfInBounds i true).setIfInBounds j true) = true → goneB ops I (listed.setIfInBounds j true) = true := fun hgo => by
        unfold goneB at hgo ⊢
        rw [List.any_eq_true] at hgo ⊢
        obtain ⟨k, hk, h⟩ := hgo
        rw [Bool.and_eq_true] at h
        refine ⟨k, hk, ?_⟩
        rw [Bool.and_eq_true]
        refine ⟨?_, h.2⟩
        by_cases hik : i = k
        · subst hik
          rw [hD] at h
          cases h.2
        · rw [Array.setIfInBounds_comm _ _ (Ne.symm hji), getD_set_ne false hik] at h
          exact h.1
      refine wpOp_mono (fun a' w' h3 => ?_) h2
      have hg2 : S w' ∨ goneB ops I (listed.setIfInBounds j true) = true := h3.2.1.imp id hgone
      refine ⟨hg2, ih (listed.setIfInBounds j true) a' w' hcj hfree' (ready_mono hr (Ne.symm hji)) h3.1 ?_ ?_ (hg2.imp id goneB_set)⟩
      · rcases hT with ⟨hI, hST⟩ | hT
        · rcases hg2 with h | h
          · exact hST w' h
          · exfalso
            unfold goneB at h
            rw [List.any_eq_true] at h
            obtain ⟨k, _, h⟩ := h
            rw [Bool.and_eq_true] at h
            have hA := h.2
            unfold allAhead at hA
            rw [List.all_eq_true] at hA
            have hi1 := hA i (by simpa using hI)
            rw [Bool.and_eq_true] at hi1
            have := ancUp_in hcj k [k] (fun q hq => by rw [List.mem_singleton] at hq; subst hq; exact h.1) i (by simpa using hi1.2)
            rw [hiun2] at this
            cases this
        · exact hT w'
      · rw [Array.setIfInBounds_comm _ _ hji]
        exact h3.2.2
/-- A load, taken first. -/
theorem wpAnyD_load {i : Nat} {oi : Oper} {v : Value} {fuel : Nat} {listed : Array Bool} {a : Act} {w : World} (hi : ops[i]? = some oi)
    (hk : (Region.noSelect ops && closedB ops listed && Region.free .any ops listed i && (Region.ready .any ops listed).contains i && I.contains i && !allAhead ops I i) = true)
    (hQ : ∀ c a w, Q (.panic c) (a.put oi.dst v) w → Q (.panic c) a w) (hy : YieldsIf P ops S oi v a) (hS : S w)
    (h : wpAnyD P ops Q S I fuel (listed.setIfInBounds i true) (a.put oi.dst v) w) : wpAnyD P ops Q S I (fuel + 1) listed a w := by
  simp only [Bool.and_eq_true, Bool.not_eq_true'] at hk
  obtain ⟨⟨⟨⟨⟨h1, h2⟩, h3⟩, h4⟩, h5⟩, h6⟩ := hk
  exact wpAnyD_first hi (Region.noSelect_spec h1) hQ h6 (.inl ⟨h5, fun _ h => h⟩) fuel listed a w h2 (Region.free_spec hi h3) (by simpa using h4) hy hS h (.inl hS)
/-- What yields its value in whatever world, taken first. -/
theorem wpAnyD_take {i : Nat} {oi : Oper} {v : Value} {fuel : Nat} {listed : Array Bool} {a : Act} {w : World} (hi : ops[i]? = some oi)
    (hk : (Region.noSelect ops && closedB ops listed && Region.free .any ops listed i && (Region.ready .any ops listed).contains i && !allAhead ops I i) = true)
    (hQ : ∀ c a w, Q (.panic c) (a.put oi.dst v) w → Q (.panic c) a w) (hy : YieldsIf P ops (fun _ => True) oi v a) (hS : S w ∨ goneB ops I listed = true)
    (h : wpAnyD P ops Q S I fuel (listed.setIfInBounds i true) (a.put oi.dst v) w) : wpAnyD P ops Q S I (fuel + 1) listed a w := by
  simp only [Bool.and_eq_true, Bool.not_eq_true'] at hk
  obtain ⟨⟨⟨⟨h1, h2⟩, h3⟩, h4⟩, h6⟩ := hk
  exact wpAnyD_first (T := fun _ => True) hi (Region.noSelect_spec h1) hQ h6 (.inr fun _ => trivial) fuel listed a w h2 (Region.free_spec hi h3) (by simpa using h4) hy trivial h (hS.imp id goneB_set)
theorem wpAnyD_done {listed : Array Bool} {a : Act} {w : World} (hr : Region.ready .any ops listed = []) (h : Q .normal a w) : ∀ fuel, wpAnyD P ops Q S I fuel listed a w
  | 0 => ⟨hr, h⟩
  | _ + 1 => ⟨fun _ => h, by rw [hr]; simp⟩
/-- The one operation that may come up is carried out. -/
theorem wpAnyD_exec {i : Nat} {oi : Oper} {fuel : Nat} {listed : Array Bool} {a : Act} {w : World} (hr : Region.ready .any ops listed = [i]) (hi : ops[i]? = some oi)
    (h : ∀ K : Act → World → Prop, Shut (∀ a' w', (S w' ∨ goneB ops I (listed.setIfInBounds i true) = true) → wpAnyD P ops Q S I fuel (listed.setIfInBounds i true) a' w' → K a' w') → if Region.wanted oi (yielded ops a.tmps) = true then Oper.wp P oi a w K Q else K (a.put oi.dst undef) w) :
    wpAnyD P ops Q S I (fuel + 1) listed a w := by
  refine ⟨fun h0 => (by rw [h0] at hr; cases hr), fun j hj => ?_⟩
  rw [hr, List.mem_singleton] at hj
  subst hj
  exact wpOp_step hi (fun K' hK => h K' (fun a' w' hS hW => hK a' w' ⟨hS, hW⟩))
/-- The beginning. -/
theorem wp_region_D {id : Nat} {a : Act} {w : World} (hm : P.follows .mixedOrders = true) (S : World → Prop) (I : List Nat)
    (h : wpAnyD P ops Q S I ops.size (Array.replicate ops.size false) a w.drew) : (Code.region id ops true).wp P Q a w :=
  wp_region_any hm (wpAny_of_D _ _ _ _ h)
end

-- AUX RN
theorem made_flat (z : List Value) (hz : 0 < z.length) (n : Nat) : madeCells z.toArray (n * z.length) = ((List.replicate n z).flatMap id).toArray := by
  apply Array.ext
  · rw [size_madeCells, List.size_toArray, flat_len (enc := id) (sz := z.length) (fun x hx => by rw [(List.mem_replicate.1 hx).2]; rfl), List.length_replicate]
  · intro j h1 h2
    have hj : j < n * z.length := by simpa [madeCells] using h1
    have hq : j / z.length < n := Nat.div_lt_of_lt_mul (by rw [Nat.mul_comm]; exact hj)
    have hlt := Nat.mod_lt j hz
    have hsplit : List.replicate n z = List.replicate (j / z.length) z ++ z :: List.replicate (n - j / z.length - 1) z := by
      rw [← List.replicate_succ, List.replicate_append_replicate]
      congr 1
      omega
    have hl : ((List.replicate (j / z.length) z).flatMap id).length = j / z.length * z.length := by
      rw [flat_len (enc := id) (sz := z.length) (fun x hx => by rw [(List.mem_replicate.1 hx).2]; rfl), List.length_replicate]
    have hjm : j / z.length * z.length + j % z.length = j := by rw [Nat.mul_comm]; exact Nat.div_add_mod j z.length
    have e1 : (madeCells z.toArray (n * z.length))[j] = z[j % z.length] := by simp [madeCells, hlt]
    have e2 : ((List.replicate n z).flatMap id)[j]? = z[j % z.length]? := by
      rw [hsplit, List.flatMap_append, List.flatMap_cons, List.getElem?_append_right (by rw [hl]; omega), hl, List.getElem?_append_left (by simp only [id]; omega)]
      congr 1
      omega
    rw [e1]
    have e3 : ((List.replicate n z).flatMap id)[j]? = some (((List.replicate n z).flatMap id).toArray[j]) := by simp
    rw [e2, List.getElem?_eq_getElem hlt] at e3
    exact Option.some.inj e3
theorem rf_make (n : Nat) (h : n ≤ 100000) (W : World) : (Instr.makeSlice 31 (.int .i64 (n : Int)) (.int .i64 (n : Int))).run Try.prog W = .ok (.slice (some ⟨W.heap.size, 0, none⟩) n n) (W.alloc (.cells (((List.replicate n sz0).flatMap secE).toArray) 34)) := by
  obtain ⟨i, hi, hz⟩ := Option.map_eq_some_iff.1 sec_info3
  simp only [Prod.mk.injEq] at hz
  have hm := run_make W 31 34 i _ Try.underlying31 hi hz.1 .i64 .i64 n n (by omega) (by omega) (by rw [hz.2.2]; omega) (by omega)
  have e : (Value.agg (u8A sz0)).cells = (secE sz0).toArray := rfl
  have hl : (secE sz0).length = 128 := by simp [sz0]
  have hm2 := made_flat (secE sz0) (by omega) n
  rw [hl] at hm2
  rw [Int.toNat_natCast, hz.2.1, e, hm2] at hm
  rw [hm]
  have : (List.replicate n (secE sz0)).flatMap id = (List.replicate n sz0).flatMap secE := by
    simp only [List.flatMap_replicate, id]
  rw [this]
theorem rf_build5 (W : World) (g n : Nat) : (Instr.build 50 #[(0, .slice (some ⟨g, 0, none⟩) n n)]).run Try.prog W = .ok (.agg (rfC (some ⟨g, 0, none⟩) n n none 0 0 0 0 false false)) W := by
  refine run_build W _ _ _ ?_
  have hi0 : (Try.prog.info? 50).map (fun i => i.zero) = some (some (.agg (rfC none 0 0 none 0 0 0 0 false false))) := by kernel_rfl
  obtain ⟨it, hi, hz⟩ := Option.map_eq_some_iff.1 hi0
  have hp : (match Try.prog.underlying 50 with | some (.struct fields) => fields.toList.mapM (fun f => (Try.prog.info? f.type).map fun i => (f.offset, i.size)) | _ => none) = some [(0, 1), (1, 1), (2, 1), (3, 1), (4, 1), (5, 1)] := by kernel_rfl
  unfold Program.built
  simp only [hi, Try.underlying50, hz] at hp ⊢
  rfl
/-- The document's disk, new. -/
def Rf.new (n : Nat) : Rf := ⟨List.replicate n sz0, [], 0, 0, false, false⟩
/-- Where the rows of the document's disk lie. -/
structure RfAt (m : List Asr) (x : Rf) (A1 : Option Addr) (n1 c1 : Nat) (A2 : Option Addr) (n2 c2 : Nat) : Prop where
  s : ∃ q, At m (.own secsR (.slice A1 n1 c1) x.secs) q
  w : ∃ q, At m (.own rwaitR (.slice A2 n2 c2) x.waiting) q
  z : n2 = 0 → A2 = none ∧ c2 = 0
theorem RfAt.cons {m : List Asr} {x : Rf} {A1 : Option Addr} {n1 c1 : Nat} {A2 : Option Addr} {n2 c2 : Nat} (h : RfAt m x A1 n1 c1 A2 n2 c2) (a : Asr) : RfAt (a :: m) x A1 n1 c1 A2 n2 c2 :=
  ⟨h.s.elim fun _ k => ⟨_, .there k⟩, h.w.elim fun _ k => ⟨_, .there k⟩, h.z⟩
theorem RfAt.app {m : List Asr} {x : Rf} {A1 : Option Addr} {n1 c1 : Nat} {A2 : Option Addr} {n2 c2 : Nat} (h : RfAt m x A1 n1 c1 A2 n2 c2) : ∀ ex : List Asr, RfAt (ex ++ m) x A1 n1 c1 A2 n2 c2
  | [] => h
  | a :: ex => (h.app ex).cons a
set_option maxRecDepth 100000 in
set_option maxHeartbeats 2000000 in
theorem rf_new {w : World} (n : Nat) (hn : 0 < n ∧ n ≤ 100000) :
    Calls Try.prog 23 #[.int .i64 (n : Int)] w fun e w1 => ∃ g, e = .returned (.agg (rfC (some ⟨g, 0, none⟩) n n none 0 0 0 0 false false)) ∧ ∃ ex, Cx w.heap.size w w1 ex ∧ ∀ m, RfAt (ex ++ m) (Rf.new n) (some ⟨g, 0, none⟩) n n none 0 0 := by
  have hm := rf_make n hn.2
  have hb := rf_build5
  have HN := Aside0.mk hn
  have Hc := Cx.start w
  clear hn
  go_enter Try.func23, Try.ntmps23
  go_wp2_with (refine wpList_exec_value rfl (exec_build 50 #[(0, .tmp 4)] rfl #[(0, .slice (some ⟨w.heap.size + 1, 0, none⟩) n n)] rfl (hb _ _ _)) ?_)
  ((try simp only [Exit.inBlock, Exit.then]); (apply Cx.atPost); (focus ((repeat (with_reducible (first | exact (Hc).toS | exact At.here | apply At.there | apply CxS.drewN | apply CxS.drew | apply CxS.alloc | apply CxS.set | apply CxS.setRow))))); intro HT)
  try simp only [List.setIfInBounds_toArray, List.set_cons_zero, List.set_cons_succ] at HT
  have H2 := HT.bigLit (g := w.heap.size + 1) (size := 128) (enc := secE) (List.replicate n sz0) (by repeat (with_reducible (first | exact At.here | apply At.there))) rfl (fun x hx => by rw [(List.mem_replicate.1 hx).2]; simp [sz0]) (by rw [List.length_replicate]; have := HN.out; omega)
  rw [List.length_replicate] at H2
  have H3 := (H2.head (a := .own secsR (.slice (some ⟨w.heap.size + 1, 0, none⟩) n n) (List.replicate n sz0)) (by repeat (with_reducible (first | exact At.here | apply At.there)))).bigNil 87 129 wrC
  exact bodyPost_ret (results_cell_row rfl _ _ w.heap.size _ (rfC (some ⟨w.heap.size + 1, 0, none⟩) n n none 0 0 0 0 false false) (0, 0) _ rfl (HT.blk (b := w.heap.size) (by repeat (with_reducible (first | exact At.here | apply At.there)))) Try.underlying50 rfl rf_info) rfl ⟨_, by first | rfl | trivial, [.own rwaitR (.slice none 0 0) [], .own secsR (.slice (some ⟨w.heap.size + 1, 0, none⟩) n n) (List.replicate n sz0)], H3, fun _ => ⟨⟨_, .there .here⟩, ⟨_, .here⟩, fun _ => ⟨rfl, rfl⟩⟩⟩

end Go.Proofs.Ytjoledofiindcaa.Hp
