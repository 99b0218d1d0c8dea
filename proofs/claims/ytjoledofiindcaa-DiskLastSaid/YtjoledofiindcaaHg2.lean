/- Contracts of functions of the given program, and what they lean on: written by this session's own program, out of hand texts laid into the kit's printer. -/
import Derived.Carry
import Derived.Test.YtjoledofiindcaaHp0
import Derived.LoopIn
import Derived.LoopNIn
import Derived.TacticsInMore
import Derived.OwnWalkIn
import Derived.Shelf.RegionOpen
import Derived.Shelf.Abstract
import Derived.RangeFuncLeaves
import Derived.RangeFuncCalls
import Derived.RangeFuncBound
import Derived.RangeFuncNested
import Derived.Deep.MidRow
import Derived.Deep.RegionHeld3
import Derived.Test.YtjoledofiindcaaHg1
namespace Go.Proofs.Ytjoledofiindcaa.Hp
open Go.RowKit Go.Proofs.YtjoledofiindcaaW.PrintWords Go.Proofs.YtjoledofiindcaaW.PrintLast Go.Proofs.YtjoledofiindcaaW.PrintMore
attribute [local go_sem] max2_int min2_int max_two min_two max_three min_three max_four min_four   -- for this text's walks alone
set_option linter.unusedVariables false
set_option linter.unusedSimpArgs false

-- AUX DKG
def Dk.new (n : Int) : Dk := ⟨0, 0, false, false, n, 0, fun _ => sz0, []⟩
set_option maxRecDepth 100000 in
theorem dk_new {B : Nat} {w0 w : World} {m : List Asr} (n : Int) (H : Cx B w0 w m) (h : 1 ≤ n ∧ n ≤ 4096) :
    Calls Try.prog 11 #[.int .i64 n] w fun e w1 => ∃ b, e = .returned (.tuple #[.pointer (some ⟨b, 0, none⟩), .nilIface]) ∧ Cx B w0 w1 (.own dkR (.pointer (some ⟨b, 0, none⟩)) (Dk.new n) :: m) := by
  have hmm := @run_makeMap Try.prog
  have h1 : ¬ n < 1 := by omega
  have h2 : ¬ 4096 < n := by omega
  clear h
  go_enter Try.func11, Try.ntmps11
  go_wp2
  ((try simp only [Exit.inBlock, Exit.then]); (apply Cx.atPost); (focus ((repeat (with_reducible (first | exact (H).toS | exact At.here | apply At.there | apply CxS.drewN | apply CxS.drew | apply CxS.alloc | apply CxS.set | apply CxS.setRow))))); intro H1)
  go_ret2
  exact ⟨_, rfl, ((H1.newMap (b := w.heap.size) (by repeat (with_reducible (first | exact At.here | apply At.there)))).bigNil 69 129 wrC).closeDk ⟨0, 0, false, false, n, 0, fun _ => sz0, []⟩ (by repeat (with_reducible (first | exact At.here | apply At.there))) (by repeat (with_reducible (first | exact At.here | apply At.there))) (by repeat (with_reducible (first | exact At.here | apply At.there))) (fun _ h => by cases h)⟩
set_option maxRecDepth 100000 in
theorem dk_new_bad {B : Nat} {w0 w : World} {m : List Asr} (n : Int) (H : Cx B w0 w m) (h : n < 1 ∨ 4096 < n) :
    Calls Try.prog 11 #[.int .i64 n] w fun e w1 => e = .returned (.tuple #[.pointer none, errW (some 1)]) ∧ Cx B w0 w1 m := by
  rcases h with h | h
  · go_enter Try.func11, Try.ntmps11
    go_wp2
    ((try simp only [Exit.inBlock, Exit.then]); (apply Cx.atPost); (focus ((repeat (with_reducible (first | exact (H).toS | exact At.here | apply At.there | apply CxS.drewN | apply CxS.drew | apply CxS.alloc | apply CxS.set | apply CxS.setRow))))); intro H1)
    go_ret2
    exact ⟨by first | rfl | simp [errW], H1⟩
  · have h1 : ¬ n < 1 := by omega
    go_enter Try.func11, Try.ntmps11
    go_wp2
    ((try simp only [Exit.inBlock, Exit.then]); (apply Cx.atPost); (focus ((repeat (with_reducible (first | exact (H).toS | exact At.here | apply At.there | apply CxS.drewN | apply CxS.drew | apply CxS.alloc | apply CxS.set | apply CxS.setRow))))); intro H1)
    go_ret2
    exact ⟨by first | rfl | simp [errW], H1⟩
theorem dk_waiting {B : Nat} {w0 w : World} {m r : List Asr} {v : Value} {d : Dk} (H : Cx B w0 w m) (k : At m (.own dkR v d) r) :
    Calls Try.prog 18 #[v] w fun e w1 => e = .returned (.int .i64 d.waiting.length) ∧ w1 = w := by
  obtain ⟨b, A, W, rfl, HWF, H0⟩ := H.openDk k
  obtain ⟨A2, c2, rfl, _⟩ := H0.bigLen (xs := d.waiting) (by repeat (with_reducible (first | exact At.here | apply At.there)))
  have F := (H0).facts; simp only [factsOf, Asr.facts, blkFacts, cellsAre, List.toList_toArray, forall_const, Nat.zero_add, Nat.reduceAdd, and_true, true_and] at F
  go_enter Try.func18, Try.ntmps18
  go_wp2
  go_ret
  exact ⟨rfl, rfl⟩
theorem dk_len {B : Nat} {w0 w : World} {m r : List Asr} {v : Value} {d : Dk} (H : Cx B w0 w m) (k : At m (.own dkR v d) r) :
    Calls Try.prog 25 #[v] w fun e w1 => e = .returned (.int .i64 d.size) ∧ w1 = w := by
  obtain ⟨b, A, W, rfl, HWF, H0⟩ := H.openDk k
  have F := (H0).facts; simp only [factsOf, Asr.facts, blkFacts, cellsAre, List.toList_toArray, forall_const, Nat.zero_add, Nat.reduceAdd, and_true, true_and] at F
  go_enter Try.func25, Try.ntmps25
  go_wp2
  go_ret
  exact ⟨rfl, rfl⟩
theorem dk_steps {B : Nat} {w0 w : World} {m r : List Asr} {v : Value} {d : Dk} (H : Cx B w0 w m) (k : At m (.own dkR v d) r) :
    Calls Try.prog 21 #[v] w fun e w1 => e = .returned (.int .i64 d.steps) ∧ w1 = w := by
  obtain ⟨b, A, W, rfl, HWF, H0⟩ := H.openDk k
  have F := (H0).facts; simp only [factsOf, Asr.facts, blkFacts, cellsAre, List.toList_toArray, forall_const, Nat.zero_add, Nat.reduceAdd, and_true, true_and] at F
  go_enter Try.func21, Try.ntmps21
  go_wp2
  go_ret
  exact ⟨rfl, rfl⟩
theorem dk_down {B : Nat} {w0 w : World} {m r : List Asr} {v : Value} {d : Dk} (H : Cx B w0 w m) (k : At m (.own dkR v d) r) :
    Calls Try.prog 19 #[v] w fun e w1 => e = .returned (.bool d.gone) ∧ w1 = w := by
  obtain ⟨b, A, W, rfl, HWF, H0⟩ := H.openDk k
  have F := (H0).facts; simp only [factsOf, Asr.facts, blkFacts, cellsAre, List.toList_toArray, forall_const, Nat.zero_add, Nat.reduceAdd, and_true, true_and] at F
  go_enter Try.func19, Try.ntmps19
  go_wp2
  go_ret
  exact ⟨rfl, rfl⟩
def Dk.arm (d : Dk) (n : Int) : Dk := if n < 0 then d else { d with armed := true, left := n }
theorem dk_arm {B : Nat} {w0 w : World} {m r : List Asr} {v : Value} {d : Dk} (n : Int) (H : Cx B w0 w m) (k : At m (.own dkR v d) r) :
    Calls Try.prog 20 #[v, .int .i64 n] w fun e w1 => e = .returned (errW (if n < 0 then some 1 else none)) ∧ Cx B w0 w1 (.own dkR v (d.arm n) :: r) := by
  obtain ⟨b, A, W, rfl, HWF, H0⟩ := H.openDk k
  have F := (H0).facts; simp only [factsOf, Asr.facts, blkFacts, cellsAre, List.toList_toArray, forall_const, Nat.zero_add, Nat.reduceAdd, and_true, true_and] at F
  by_cases hn : n < 0
  · go_enter Try.func20, Try.ntmps20
    go_wp2
    ((try simp only [Exit.inBlock, Exit.then]); (apply Cx.atPost); (focus ((repeat (with_reducible (first | exact (H0).toS | exact At.here | apply At.there | apply CxS.drewN | apply CxS.drew | apply CxS.alloc | apply CxS.set | apply CxS.setRow))))); intro H1)
    go_ret
    rw [show d.arm n = d from if_pos (by omega)]
    exact ⟨by first | rfl | simp [errW] | trivial, H1.closeDk d (by repeat (with_reducible (first | exact At.here | apply At.there))) (by repeat (with_reducible (first | exact At.here | apply At.there))) (by repeat (with_reducible (first | exact At.here | apply At.there))) HWF.out⟩
  · go_enter Try.func20, Try.ntmps20
    go_wp2
    ((try simp only [Exit.inBlock, Exit.then]); (apply Cx.atPost); (focus ((repeat (with_reducible (first | exact (H0).toS | exact At.here | apply At.there | apply CxS.drewN | apply CxS.drew | apply CxS.alloc | apply CxS.set | apply CxS.setRow))))); intro H1)
    try simp only [List.setIfInBounds_toArray, List.set_cons_zero, List.set_cons_succ] at H1
    go_ret
    rw [show d.arm n = { d with armed := true, left := n } from if_neg (by omega)]
    exact ⟨by first | rfl | simp [errW] | trivial, H1.closeDk { d with armed := true, left := n } (by repeat (with_reducible (first | exact At.here | apply At.there))) (by repeat (with_reducible (first | exact At.here | apply At.there))) (by repeat (with_reducible (first | exact At.here | apply At.there))) HWF.out⟩
set_option maxRecDepth 100000 in
set_option maxHeartbeats 2000000 in
theorem dk_sure {B : Nat} {w0 w : World} {m r : List Asr} {v : Value} {d : Dk} (i : Int) (hi : (Lit.int .i64 i).wf = true) (H : Cx B w0 w m) (k : At m (.own dkR v d) r) :
    Calls Try.prog 17 #[v, .int .i64 i] w fun e w1 => e = .returned (.agg (u8A (d.sure i))) ∧ Cx B w0 w1 (.own dkR v d :: r) := by
  obtain ⟨b, A, W, rfl, HWF, H0⟩ := H.openDk k
  obtain ⟨bm, rfl⟩ := H0.mapped (x := (d.cnt, d.sure)) (by repeat (with_reducible (first | exact At.here | apply At.there)))
  have hz := dk_zero
  have hsl := H0.lookLen (x := (d.cnt, d.sure)) (by repeat (with_reducible (first | exact At.here | apply At.there))) i
  have HSL := Aside0.mk hsl
  clear H k hsl
  have F0 := (H0).facts; simp only [factsOf, Asr.facts, blkFacts, cellsAre, List.toList_toArray, forall_const, Nat.zero_add, Nat.reduceAdd, and_true, true_and] at F0
  have hlk := fun o => (H0.toS.alloc o).cx.look (b := bm) (x := (d.cnt, d.sure)) (by repeat (with_reducible (first | exact At.here | apply At.there))) i hi
  simp only at hlk
  go_enter Try.func17, Try.ntmps17
  go_wp2_with (((with_reducible refine gate_store (t := 34) (x := .tmp 4) (y := .tmp 13) rfl ?_); (apply Cx.atList); (focus ((repeat (with_reducible (first | exact (H0).toS | exact At.here | apply At.there | apply CxS.drewN | apply CxS.drew | apply CxS.alloc | apply CxS.set | apply CxS.setRow))))); intro HT_; refine wpList_store_row rfl 34 (.tmp 4) (.tmp 13) rfl (w.heap.size) (u8A (d.sure i)) rfl rfl _ _ (HT_.blk (by repeat (with_reducible (first | exact At.here | apply At.there)))) (by rw [u8A_size, HSL.out]; exact dk_info) (by rw [u8A_size, u8A_size, HSL.out, sz0_len]) (u8A_one _) ?_; clear HT_))
  ((try simp only [Exit.inBlock, Exit.then]); (apply Cx.atPost); (focus ((repeat (with_reducible (first | exact (H0).toS | exact At.here | apply At.there | apply CxS.drewN | apply CxS.drew | apply CxS.alloc | apply CxS.set | apply CxS.setRow))))); intro HT)
  refine bodyPost_ret (results_cell_row rfl _ _ w.heap.size _ (u8A (d.sure i)) (0, 0) _ rfl (HT.blk (by repeat (with_reducible (first | exact At.here | apply At.there)))) Try.underlying34 rfl (by rw [u8A_size, HSL.out]; exact dk_info)) rfl ⟨rfl, ?_⟩
  exact (HT.drop (a := .blk w.heap.size (.cells (u8A (d.sure i)) 34 (0, 0))) (by repeat (with_reducible (first | exact At.here | apply At.there)))).closeDk d (by repeat (with_reducible (first | exact At.here | apply At.there))) (by repeat (with_reducible (first | exact At.here | apply At.there))) (by repeat (with_reducible (first | exact At.here | apply At.there))) HWF.out

-- AUX DKR
open Go.Shelf
attribute [local go_sem] Oper.semAt_some
/-- The write that waits for a sector, the last one. -/
def lastW (ws : List (Int × List Int)) (i : Int) : Option (List Int) := ((ws.reverse.find? fun x => x.1 == i)).map (·.2)
def Dk.read (d : Dk) (i : Int) : List Int × Option Int := if d.gone = true then (sz0, some 3) else if d.has i = false then (sz0, some 1) else ((lastW d.waiting i).getD (d.sure i), none)
set_option maxRecDepth 100000 in
theorem results_c34_28 {fn : Func} {p q : Tmp} (h : fn.results = #[.cell p 34, .cell q 28]) (tmps : Array Value) (w : World) (g g2 : Nat) (cs : Array Value) (x : Value)
    (hp : tmps.getD p undef = .pointer (some ⟨g, 0, none⟩)) (hg : w.heap[g]? = some (.cells cs 34 (0, 0))) (hi : (Try.prog.info? 34).map (·.size) = some cs.size)
    (hq : tmps.getD q undef = .pointer (some ⟨g2, 0, none⟩)) (hc : w.cell? ⟨g2, 0, none⟩ = some x) :
    (results fn tmps).run Try.prog w = .ok (.tuple #[.agg cs, x]) w := by
  have h1 : tmps[p]?.getD undef = .pointer (some ⟨g, 0, none⟩) := by simpa using hp
  have h2 : tmps[q]?.getD undef = .pointer (some ⟨g2, 0, none⟩) := by simpa using hq
  have h28 := run_isAgg_plain (P := Try.prog) Try.underlying28 rfl w
  have hl := run_loadVar_row (P := Try.prog) w g 34 34 cs (0, 0) _ hg Try.underlying34 rfl hi
  have hl2 : (loadVar 28 ⟨g2, 0, none⟩).run Try.prog w = .ok x w := by simp [loadVar, h28, hc]
  simp [results, h, h1, h2, asAddr, hl, hl2]
set_option maxRecDepth 100000 in
set_option maxHeartbeats 4000000 in
theorem dk_read_bad {B : Nat} {w0 w : World} {m r : List Asr} {v : Value} {d : Dk} (i : Int) (H : Cx B w0 w m) (k : At m (.own dkR v d) r) (hbad : d.gone = true ∨ d.has i = false) :
    Calls Try.prog 16 #[v, .int .i64 i] w fun e w1 => e = .returned (.tuple #[.agg (u8A (d.read i).1), errW (d.read i).2]) ∧ Below w.heap.size w w1 := by
  obtain ⟨b, A, W, rfl, HWF, H0⟩ := H.openDk k
  have hz := dk_zero
  have hzb := dk_zerob
  have h28 := Try.underlying28
  have h56 := Try.underlying56
  have Hc := Cx.start w
  have F : True := trivial
  have hE : ∀ e : Option Int, errW e = (match e with | none => .nilIface | some c => .iface 56 (.int .i64 c)) := fun e => by cases e <;> rfl
  cases hg : d.gone
  · have hhas : d.has i = false := hbad.resolve_left (by rw [hg]; exact fun h => by cases h)
    have hrd : d.read i = (sz0, some 1) := by simp [Dk.read, hg, hhas]
    have HD := Aside0.mk hhas
    have HG := Aside0.mk hg
    rw [hrd]
    clear hhas hbad hrd hg
    go_enter Try.func16, Try.ntmps16
    go_wp2_with fail
    (apply Cx.atCall; (focus ((repeat (with_reducible (first | exact (Hc).toS | exact At.here | apply At.there | apply CxS.drewN | apply CxS.drew | apply CxS.alloc | apply CxS.set | apply CxS.setRow))))); intro HT)
    refine (dk_down (H.below HT.bel) k).mono ?_
    rintro e w1 ⟨rfl, rfl⟩
    rw [HG.out]
    clear HT
    go_wp2_with fail
    (apply Cx.atCall; (focus ((repeat (with_reducible (first | exact (Hc).toS | exact At.here | apply At.there | apply CxS.drewN | apply CxS.drew | apply CxS.alloc | apply CxS.set | apply CxS.setRow))))); intro HT)
    have HO := (H0.below HT.bel)
    refine (dk_has i HO (by repeat (with_reducible (first | exact At.here | apply At.there)))).mono ?_
    rintro e w1 ⟨rfl, rfl⟩
    rw [show (decide (0 ≤ i ∧ i < d.size)) = false from HD.out]
    clear HT HO
    go_wp2_with ((((with_reducible refine gate_store (t := 34) (x := .tmp 4) (y := .tmp 18) rfl ?_); (apply Cx.atList); (focus ((repeat (with_reducible (first | exact (Hc).toS | exact At.here | apply At.there | apply CxS.drewN | apply CxS.drew | apply CxS.alloc | apply CxS.set | apply CxS.setRow))))); intro HT_; refine wpList_store_row rfl 34 (.tmp 4) (.tmp 18) rfl (w.heap.size + 1) (u8A sz0) rfl rfl _ _ (HT_.blk (by repeat (with_reducible (first | exact At.here | apply At.there)))) (dk_isz sz0_len) (rfl) (u8A_one _) ?_; clear HT_); clear F; (apply Cx.genList); (focus ((repeat (with_reducible (first | exact (Hc).toS | exact At.here | apply At.there | apply CxS.drewN | apply CxS.drew | apply CxS.alloc | apply CxS.set | apply CxS.setRow))))); clear Hc; intro w4 Hc4; have F := (Hc4).facts; simp only [factsOf, Asr.facts, blkFacts, cellsAre, List.toList_toArray, forall_const, Nat.zero_add, Nat.reduceAdd, and_true, true_and] at F))
    ((try simp only [Exit.inBlock, Exit.then]); (apply Cx.atPost); (focus ((repeat (with_reducible (first | exact (Hc4).toS | exact At.here | apply At.there | apply CxS.drewN | apply CxS.drew | apply CxS.alloc | apply CxS.set | apply CxS.setRow))))); intro HT)
    try simp only [List.setIfInBounds_toArray, List.set_cons_zero, List.set_cons_succ] at HT
    exact bodyPost_ret (results_c34_28 rfl _ _ (w.heap.size + 1) (w.heap.size + 1 + 1) (u8A sz0) _ rfl (HT.blk (by repeat (with_reducible (first | exact At.here | apply At.there)))) (dk_isz sz0_len) rfl ((cell_of (HT.blk (b := w.heap.size + 1 + 1) (o := .cells #[.iface 56 (.int .i64 1)] 28 (0, 0)) (by repeat (with_reducible (first | exact At.here | apply At.there)))) 0).trans rfl)) rfl ⟨by first | rfl | trivial, HT.bel⟩
  · have hrd : d.read i = (sz0, some 3) := by simp [Dk.read, hg]
    have HG := Aside0.mk hg
    rw [hrd]
    clear hbad hrd hg
    go_enter Try.func16, Try.ntmps16
    go_wp2_with fail
    (apply Cx.atCall; (focus ((repeat (with_reducible (first | exact (Hc).toS | exact At.here | apply At.there | apply CxS.drewN | apply CxS.drew | apply CxS.alloc | apply CxS.set | apply CxS.setRow))))); intro HT)
    refine (dk_down (H.below HT.bel) k).mono ?_
    rintro e w1 ⟨rfl, rfl⟩
    rw [HG.out]
    clear HT
    go_wp2_with ((((with_reducible refine gate_store (t := 34) (x := .tmp 4) (y := .tmp 11) rfl ?_); (apply Cx.atList); (focus ((repeat (with_reducible (first | exact (Hc).toS | exact At.here | apply At.there | apply CxS.drewN | apply CxS.drew | apply CxS.alloc | apply CxS.set | apply CxS.setRow))))); intro HT_; refine wpList_store_row rfl 34 (.tmp 4) (.tmp 11) rfl (w.heap.size + 1) (u8A sz0) rfl rfl _ _ (HT_.blk (by repeat (with_reducible (first | exact At.here | apply At.there)))) (dk_isz sz0_len) (rfl) (u8A_one _) ?_; clear HT_); clear F; (apply Cx.genList); (focus ((repeat (with_reducible (first | exact (Hc).toS | exact At.here | apply At.there | apply CxS.drewN | apply CxS.drew | apply CxS.alloc | apply CxS.set | apply CxS.setRow))))); clear Hc; intro w4 Hc4; have F := (Hc4).facts; simp only [factsOf, Asr.facts, blkFacts, cellsAre, List.toList_toArray, forall_const, Nat.zero_add, Nat.reduceAdd, and_true, true_and] at F))
    ((try simp only [Exit.inBlock, Exit.then]); (apply Cx.atPost); (focus ((repeat (with_reducible (first | exact (Hc4).toS | exact At.here | apply At.there | apply CxS.drewN | apply CxS.drew | apply CxS.alloc | apply CxS.set | apply CxS.setRow))))); intro HT)
    try simp only [List.setIfInBounds_toArray, List.set_cons_zero, List.set_cons_succ] at HT
    exact bodyPost_ret (results_c34_28 rfl _ _ (w.heap.size + 1) (w.heap.size + 1 + 1) (u8A sz0) _ rfl (HT.blk (by repeat (with_reducible (first | exact At.here | apply At.there)))) (dk_isz sz0_len) rfl ((cell_of (HT.blk (b := w.heap.size + 1 + 1) (o := .cells #[.iface 56 (.int .i64 3)] 28 (0, 0)) (by repeat (with_reducible (first | exact At.here | apply At.there)))) 0).trans rfl)) rfl ⟨by first | rfl | trivial, HT.bel⟩
theorem came_snd (ws : List (Int × List Int)) (k : Nat) : (came ws k).map (·.2) = (ws.drop k).reverse := by
  unfold came
  rw [List.map_map, List.map_reverse]
  congr 1
  apply List.ext_getElem
  · simp
  · intro q h1 h2
    simp only [List.length_drop] at h2
    simp [List.getD_eq_getElem?_getD, List.getElem?_eq_getElem (show k + q < ws.length by omega)]
theorem lastW_came {ws : List (Int × List Int)} {i : Int} {k : Nat} {ini : List (Nat × (Int × List Int))} {last : Nat × (Int × List Int)} (h : came ws k = ini ++ [last]) (e2 : last.2.1 = i) (e3 : ∀ p ∈ ini, p.2.1 ≠ i) : lastW ws i = some last.2.2 ∧ last.2 ∈ ws := by
  have h1 := came_snd ws k
  rw [h, List.map_append, List.map_singleton] at h1
  have h2 : ws.reverse = (ini.map (·.2) ++ [last.2]) ++ (ws.take k).reverse := by rw [h1, ← List.reverse_append, List.take_append_drop]
  have hn : (ini.map (·.2)).find? (fun x => x.1 == i) = none := by
    rw [List.find?_eq_none]
    intro x hx
    obtain ⟨p, hp, rfl⟩ := List.mem_map.1 hx
    simpa using e3 p hp
  refine ⟨?_, ?_⟩
  · unfold lastW
    rw [h2, List.find?_append, List.find?_append, hn, List.find?_singleton]
    simp [e2]
  · have : last.2 ∈ (ws.drop k).reverse := by rw [← h1]; simp
    exact List.mem_of_mem_drop (List.mem_reverse.1 this)
theorem lastW_none {ws : List (Int × List Int)} {i : Int} (h : ∀ p ∈ came ws 0, p.2.1 ≠ i) : lastW ws i = none := by
  have h1 := came_snd ws 0
  rw [List.drop_zero] at h1
  unfold lastW
  rw [← h1, Option.map_eq_none_iff, List.find?_eq_none]
  intro x hx
  obtain ⟨p, hp, rfl⟩ := List.mem_map.1 hx
  simpa using h p hp
/-- What is known between two rounds of Read's loop; what is known where a round returns. -/
def RdI (w : World) (n : Nat) (i : Int) (pre : List (Nat × (Int × List Int))) (W : World) : Prop :=
  (W.heap[w.heap.size + 1 + 1]? = some (.cells #[.nilIface] 28 (0, 0)) ∧ W.heap[w.heap.size + 1]? = some (.cells (u8A sz0) 34 (0, 0)) ∧ W.heap[w.heap.size]? = some (.cells #[.int .i64 i] 3 (0, 0)) ∧ (∀ p ∈ pre, p.2.1 ≠ i) ∧ n ≤ W.heap.size) ∧ Below w.heap.size w W
def RdX (w : World) (i : Int) (c : Code) (pre : List (Nat × (Int × List Int))) (W : World) : Prop :=
  (c = .ret ∧ W.heap[w.heap.size + 1 + 1]? = some (.cells #[.nilIface] 28 (0, 0)) ∧ ∃ ini last, (pre = ini ++ [last] ∧ last.2.1 = i ∧ ∀ p ∈ ini, p.2.1 ≠ i) ∧ W.heap[w.heap.size + 1]? = some (.cells (u8A (secN last.2.2)) 34 (0, 0))) ∧ Below w.heap.size w W
theorem RdI.own (w : World) (n : Nat) (i : Int) (B : Nat) (hB : w.heap.size ≤ B) : OwnFrom B (RdI w n i) :=
  OwnFrom.and (Own.from (fun s A B row hs hg hr => ⟨blk_own _ _ (fun _ : Unit => #[Value.nilIface]) () A B row hs.1 hg hr, blk_own _ _ (fun _ : Unit => u8A sz0) () A B row hs.2.1 hg hr, blk_own _ _ (fun _ : Unit => #[Value.int .i64 i]) () A B row hs.2.2.1 hg hr, hs.2.2.2.1, Nat.le_trans hs.2.2.2.2 hg.size⟩) _) (ownFrom_below (Nat.le_refl _) hB)
theorem RdX.own (w : World) (i : Int) (c : Code) (B : Nat) (hB : w.heap.size ≤ B) : OwnFrom B (RdX w i c) :=
  OwnFrom.and (Own.from (fun s A B row hs hg hr => by obtain ⟨e, h1, ini, last, h2, h3⟩ := hs; exact ⟨e, blk_own _ _ (fun _ : Unit => #[Value.nilIface]) () A B row h1 hg hr, ini, last, h2, blk_own _ _ (fun _ : Unit => u8A (secN last.2.2)) () A B row h3 hg hr⟩) _) (ownFrom_below (Nat.le_refl _) hB)
set_option maxRecDepth 100000 in
set_option maxHeartbeats 8000000 in
theorem dk_read_ok {B : Nat} {w0 w : World} {m r : List Asr} {v : Value} {d : Dk} (i : Int) (hi : (Lit.int .i64 i).wf = true) (H : Cx B w0 w m) (k : At m (.own dkR v d) r) (hl : d.waiting.length < 100000) (hg : d.gone = false) (hh : d.has i = true) :
    Calls Try.prog 16 #[v, .int .i64 i] w fun e w1 => e = .returned (.tuple #[.agg (u8A (d.read i).1), .nilIface]) ∧ Below w.heap.size w w1 := by
  obtain ⟨b, A, W, rfl, HWF, H0⟩ := H.openDk k
  obtain ⟨bm, rfl⟩ := H0.mapped (x := (d.cnt, d.sure)) (by repeat (with_reducible (first | exact At.here | apply At.there)))
  obtain ⟨A2, c2, rfl, hle, hrow, _⟩ := H0.bigLen (xs := d.waiting) (by repeat (with_reducible (first | exact At.here | apply At.there)))
  obtain ⟨N, hN⟩ : ∃ N, N = d.waiting.length := ⟨_, rfl⟩
  rw [← hN] at H0
  have hNb : N < 100000 := by omega
  have HN := Aside0.mk hN
  have hz := dk_zero
  have hz2 := dk_zero2
  have h28 := Try.underlying28
  have HD := Aside0.mk hh
  have HG := Aside0.mk hg
  have HI := Aside0.mk hi
  have Hc := Cx.start w
  have HRD : Aside0 (d.read i = ((lastW d.waiting i).getD (d.sure i), none)) := ⟨by simp [Dk.read, hg, hh]⟩
  rw [HRD.out]
  obtain ⟨res, hres⟩ : ∃ res, res = (lastW d.waiting i).getD (d.sure i) := ⟨_, rfl⟩
  rw [← hres]
  have HRES := Aside0.mk hres
  simp only
  have HROW := Aside0.mk hrow
  clear hl hg hh hi hN hle hrow hres HRD
  refine (callsIn_wide (n := 8)).1 ?_
  refine callsIn_of_wp_marks Try.func16 rfl trivial ?_ rfl
  refine wpIn_wide.2 ?_
  simp only [Try.ntmps16, List.size_toArray, List.length_cons, List.length_nil, Nat.reduceAdd, Nat.reduceSub, Array.replicate_succ, Array.replicate_zero, List.push_toArray, List.append_toArray, List.nil_append, List.cons_append]
  go_wp2_with fail
  ((first | apply Cx.genCall | apply Cx.genCode | apply Cx.genList); (focus ((repeat (with_reducible (first | exact (Hc).toS | exact At.here | apply At.there | apply CxS.drewN | apply CxS.drew | apply CxS.alloc | apply CxS.set | apply CxS.setRow))))); clear Hc; intro T HT)
  have HO := H0.below HT.bel
  have F := (HO).facts; simp only [factsOf, Asr.facts, blkFacts, cellsAre, List.toList_toArray, forall_const, Nat.zero_add, Nat.reduceAdd, and_true, true_and] at F
  have F2 := (HT).facts; simp only [factsOf, Asr.facts, blkFacts, cellsAre, List.toList_toArray, forall_const, Nat.zero_add, Nat.reduceAdd, and_true, true_and] at F2
  have hbs := HT.bel.size
  refine (dk_down (H.below HT.bel) k).mono ?_
  rintro e w1 ⟨rfl, rfl⟩
  rw [HG.out]
  go_wp2_with fail
  refine (dk_has i HO (by repeat (with_reducible (first | exact At.here | apply At.there)))).mono ?_
  rintro e w1 ⟨rfl, rfl⟩
  rw [show (decide (0 ≤ i ∧ i < d.size)) = true from HD.out]
  go_wp2_with fail
  refine ((callsIn_wide (n := 7)).1 (dk_back_in Fence.wide 7 trivial rfl A2 N c2 _)).mono ?_
  rintro e w1 ⟨rfl, rfl⟩
  go_wp2_with fail
  have hcb : ∀ j x, d.waiting[j]? = some x → ∃ g, A2 = some ⟨g, 0, none⟩ ∧ g < (w1.alloc (.cells #[.slice A2 N c2] 65)).heap.size ∧ (wrC x).length = 129 ∧ (w1.alloc (.cells #[.slice A2 N c2] 65)).rangeAt g (j * 129) (wrC x) := fun j x hx => by
    obtain ⟨g, e, h1, _, h3, h4⟩ := HO.bigAt (xs := d.waiting) (n := N) (c := c2) (A := A2) (by repeat (with_reducible (first | exact At.here | apply At.there))) j x hx
    exact ⟨g, e, by simp; omega, h3, World.rangeAt_alloc (fun q u hu => h4 q u hu) _⟩
  have hB0 : Below w.heap.size w (w1.alloc (.cells #[.slice A2 N c2] 65)) := HT.bel.alloc hbs _
  have hI0 := ((HT.toS.alloc (.cells #[.slice A2 N c2] 65)).cx)
  have q1 := hI0.blk (b := w.heap.size + 1 + 1) (o := .cells #[.nilIface] 28 (0, 0)) (by repeat (with_reducible (first | exact At.here | apply At.there)))
  have q2 := hI0.blk (b := w.heap.size + 1) (o := .cells (u8A sz0) 34 (0, 0)) (by repeat (with_reducible (first | exact At.here | apply At.there)))
  have q3 := hI0.blk (b := w.heap.size) (o := .cells #[.int .i64 i] 3 (0, 0)) (by repeat (with_reducible (first | exact At.here | apply At.there)))
  have hrng : w1.heap.size < (w1.alloc (.cells #[.slice A2 N c2] 65)).heap.size := by simp
  have hbox : (w1.alloc (.cells #[.slice A2 N c2] 65)).cell? ⟨w1.heap.size, 0, none⟩ = some (.slice A2 N c2) := (cell_of (heap_alloc_new w1 _) 0).trans rfl
  have hst := dk_back_stops Fence.wide 7 trivial rfl (by decide) w1.heap.size N c2 A2 d.waiting HN.out hNb _ hrng hbox hcb
  have hsz2 : (w1.alloc (.cells #[.slice A2 N c2] 65)).heap.size = w1.heap.size + 1 := by simp
  have hws : w.heap.size + 1 + 1 < w1.heap.size := F2.1.1
  clear hcb hrng hbox F F2 hI0
  have HSZ := Aside0.mk hsz2
  generalize (w1.alloc (.cells #[.slice A2 N c2] 65)) = T at *
  have hle0 : w.heap.size ≤ T.heap.size := by omega
  clear hsz2
  refine (wpIn_wide (n := 8)).1 ?_
  refine wpIn_rangeFunc_ownH (F := Fence.wide) rfl (by decide) (gf := 41) (lb := #[.pointer (some ⟨w1.heap.size, 0, none⟩)]) rfl trivial (enters_of Try.func41 (by kernel_rfl) rfl)
    hst belowK_t (belowK_b (Nat.le_refl _)) (Below.refl _ _) (fun _ => rfl)
    (RdI w T.heap.size i) (RdX w i) (RdI.own w _ i _ hle0) (fun c => RdX.own w i c _ hle0)
    ⟨⟨q1, q2, q3, (fun _ h => by cases h), Nat.le_refl _⟩, hB0⟩
    (fun x a' W => ∃ Bx, w.heap.size + 1 + 1 < Bx ∧ W.heap[Bx]? = some (.cells (wrN x.2).toArray 69 (0, 0)) ∧ a' = { tmps := #[.pointer (some ⟨b, 0, none⟩), .int .i64 i, undef, .pointer (some ⟨w.heap.size, 0, none⟩), .pointer (some ⟨w.heap.size + 1, 0, none⟩), .pointer (some ⟨w.heap.size + 1 + 1, 0, none⟩), undef, .pointer (some ⟨Bx, 0, none⟩), .bool false, .pointer (some ⟨b, 0, none⟩), .bool false, undef, undef, .bool false, .pointer (some ⟨b, 0, none⟩), .int .i64 i, .bool true, .bool false, undef, undef, .pointer (some ⟨b, 0, none⟩), .pointer (some ⟨b, 0, none⟩), .pointer (some ⟨b, 6, none⟩), .slice A2 N c2, .func (.func 41) #[] #[.pointer (some ⟨w1.heap.size, 0, none⟩)], .int .i64 (x.1 : Int), .agg (wrN x.2).toArray, undef, undef, undef, undef, undef, undef, undef, undef, undef, undef, undef, undef], defers := [] })
    (fun x a' _ X Y row hs hg hr => by obtain ⟨Bx, h1, h2, h3⟩ := hs; exact ⟨Bx, h1, blk_own _ _ (fun _ : Unit => (wrN x.2).toArray) () X Y row h2 hg (fun r e => (hr r e).2), h3⟩)
    ?assign ?body ?done ?stop
  case assign =>
    rintro l pre x W K ⟨⟨h1, h2, h3, h4, hT⟩, hB⟩ hK
    have hl := wrN_len x.2
    have hnew := heap_alloc_new W (.cells (wrC (0, sz0)).toArray 69 (0, 0))
    gi_wp2_with (refine wpListIn_store_row rfl 69 (.tmp 7) (.tmp 26) rfl W.heap.size (wrN x.2).toArray rfl rfl _ _ hnew (by rw [List.size_toArray, hl]; kernel_rfl) (by rw [List.size_toArray, List.size_toArray, hl, wrC_len _ sz0_len]) (wrC_oneA _) ?_)
    have hbw : Below W.heap.size W ((W.alloc (.cells (wrC (0, sz0)).toArray 69)).setRow W.heap.size (wrN x.2).toArray) := below_setRow ((Below.refl _ W).alloc (Nat.le_refl _) _) (Nat.le_refl _) _
    exact hK _ _ (((KeepsOthers.alloc _ _).trans (KeepsOthers.setRow_ hnew _)).from _) (hbw.mono hT) ⟨⟨(hbw.block _ (blk_size h1)).trans h1, (hbw.block _ (blk_size h2)).trans h2, (hbw.block _ (blk_size h3)).trans h3, h4, Nat.le_trans hT hbw.size⟩, hB.trans (hbw.mono hB.size)⟩ ⟨W.heap.size, by have := blk_size h1; omega, setRow_heap _ _ _ _ _ _ hnew, rfl⟩
  case body =>
    rintro l pre x a' W hl0 ⟨rr, hrr⟩ ⟨⟨h1, h2, h3, h4, hT⟩, hB⟩ ⟨Bx, hBx, hb, rfl⟩ hlt
    have c0 : W.cell? ⟨Bx, 0, none⟩ = some (.int .i64 x.2.1) := (cell_of hb 0).trans rfl
    have ci : W.cell? ⟨w.heap.size, 0, none⟩ = some (.int .i64 i) := (cell_of h3 0).trans rfl
    have hsl := secN_len x.2.2
    have hr5 : W.rangeAt Bx 1 ((secN x.2.2).map (Value.int .u8)) := fun q u hu => by
      rw [cell_of hb, Nat.add_comm]
      simpa [wrN, wrC] using hu
    by_cases he : x.2.1 = i
    · have hsr : (W.setRow (w.heap.size + 1) (u8A (secN x.2.2))).heap[w.heap.size + 1 + 1]? = some (.cells #[.nilIface] 28 (0, 0)) := (setRow_other W _ _ _ (by omega)).trans h1
      have c5 : (W.setRow (w.heap.size + 1) (u8A (secN x.2.2))).cell? ⟨w.heap.size + 1 + 1, 0, none⟩ = some .nilIface := (cell_of hsr 0).trans rfl
      have f5 : (W.setRow (w.heap.size + 1) (u8A (secN x.2.2))).frozen? ⟨w.heap.size + 1 + 1, 0, none⟩ = false := frozen_of hsr 0
      have hq2 := setRow_heap W (w.heap.size + 1) _ (u8A (secN x.2.2)) _ _ h2
      have HE := Aside0.mk he
      clear hsr
      subst he
      gi_wp2_with (first
        | (refine wpListIn_load_mid rfl 34 (.tmp 31) rfl Bx 1 rfl ((secN x.2.2).map (Value.int .u8)) _ hr5 Try.underlying34 rfl (by rw [List.length_map, hsl]; exact dk_info) ?_)
        | (refine wpListIn_store_row rfl 34 (.tmp 4) (.tmp 32) rfl (w.heap.size + 1) (u8A (secN x.2.2)) rfl rfl _ _ h2 (dk_isz hsl) (by rw [u8A_size, u8A_size, hsl, sz0_len]) (u8A_one _) ?_))
      exact ⟨((KeepsOthers.setRow_ h2 _).trans (KeepsOthers.setCell _ _ _)).from _, ⟨rfl, (setCell_here ((setRow_other W _ _ _ (by omega)).trans h1) 0 _).trans rfl, pre, x, ⟨rfl, rfl, h4⟩, (Below.heap_setCell _ ⟨w.heap.size + 1 + 1, 0, none⟩ _ _ (by show w.heap.size + 1 ≠ w.heap.size + 1 + 1; omega)).trans hq2⟩, (below_setRow hB (by omega) _).setCell (p := ⟨w.heap.size + 1 + 1, 0, none⟩) (by show w.heap.size ≤ w.heap.size + 1 + 1; omega) _⟩
    · gi_wp2
      exact ⟨KeepsFrom.refl _ _, Below.refl _ _, ⟨h1, h2, h3, fun p hp => (List.mem_append.1 hp).elim (h4 p) (fun e => by rw [List.mem_singleton] at e; subst e; exact he), hT⟩, hB⟩
  case done =>
    rintro D ys W hD rfl ⟨⟨h1, h2, h3, h4, hT⟩, hB⟩ hK
    have HOW := H0.below hB
    have hres2 : res = d.sure i := by rw [HRES.out, lastW_none h4]; rfl
    subst hres2
    have HDK := Aside0.mk hK
    have HH1 := Aside0.mk h1
    have hsl := H0.lookLen (x := (d.cnt, d.sure)) (by repeat (with_reducible (first | exact At.here | apply At.there))) i
    simp only at hsl
    have HSL := Aside0.mk hsl
    have hlk := ((HOW.toS.drew).cx).look (b := bm) (x := (d.cnt, d.sure)) (by repeat (with_reducible (first | exact At.here | apply At.there))) i HI.out
    simp only at hlk
    have ci : W.cell? ⟨w.heap.size, 0, none⟩ = some (.int .i64 i) := (cell_of h3 0).trans rfl
    have hsr : (W.drew.setRow (w.heap.size + 1) (u8A (d.sure i))).heap[w.heap.size + 1 + 1]? = some (.cells #[.nilIface] 28 (0, 0)) := (setRow_other W.drew _ _ _ (by omega)).trans h1
    have c5 : (W.drew.setRow (w.heap.size + 1) (u8A (d.sure i))).cell? ⟨w.heap.size + 1 + 1, 0, none⟩ = some .nilIface := (cell_of hsr 0).trans rfl
    have f5 : (W.drew.setRow (w.heap.size + 1) (u8A (d.sure i))).frozen? ⟨w.heap.size + 1 + 1, 0, none⟩ = false := frozen_of hsr 0
    have hq2 := setRow_heap W.drew (w.heap.size + 1) _ (u8A (d.sure i)) _ _ h2
    have F := (HOW).facts; simp only [factsOf, Asr.facts, blkFacts, cellsAre, List.toList_toArray, forall_const, Nat.zero_add, Nat.reduceAdd, and_true, true_and] at F
    clear hsl hK h1 hst
    go_wp2_with fail
    refine wp_region_still_tail 6 (by kernel_rfl) (by kernel_rfl) ?_; simp only [List.take_succ_cons, List.take_zero, List.drop_succ_cons, List.drop_zero]; (repeat (first | fail | still_step)); try refine wpStill_nil ?_
    change wpList _ _ _ _ _ W.drew
    refine wpList_store_row rfl 34 (.tmp 4) (.tmp 38) rfl (w.heap.size + 1) (u8A (d.sure i)) rfl rfl 34 (u8A sz0) h2 (dk_isz HSL.out) (by rw [u8A_size, u8A_size, HSL.out, sz0_len]) (u8A_one _) ?_
    go_wp2
    have hne1 : w.heap.size + 1 ≠ D := by have := HSZ.out; omega
    have hne2 : w.heap.size + 1 + 1 ≠ D := by have := HSZ.out; omega
    have hK2 := ((KeepsOthers.setRow_ (W := W.drew) h2 (u8A (d.sure i))).trans (KeepsOthers.setCell _ ⟨w.heap.size + 1 + 1, 0, none⟩ .nilIface)).same D _ HDK.out rfl
    have g1 : (((W.drew.setRow (w.heap.size + 1) (u8A (d.sure i))).setCell ⟨w.heap.size + 1 + 1, 0, none⟩ .nilIface).putObj D (.deferred none)).heap[w.heap.size + 1]? = some (.cells (u8A (d.sure i)) 34 (0, 0)) :=
      (World.putObj_heap_other hne1).trans ((Below.heap_setCell _ ⟨w.heap.size + 1 + 1, 0, none⟩ _ _ (by show w.heap.size + 1 ≠ w.heap.size + 1 + 1; omega)).trans hq2)
    have g2 : (((W.drew.setRow (w.heap.size + 1) (u8A (d.sure i))).setCell ⟨w.heap.size + 1 + 1, 0, none⟩ .nilIface).putObj D (.deferred none)).heap[w.heap.size + 1 + 1]? = some (.cells #[.nilIface] 28 (0, 0)) :=
      (World.putObj_heap_other hne2).trans ((setCell_here hsr 0 _).trans rfl)
    refine ⟨by simp, .inl ⟨_, _, rfl, run_takeDeferred hK2, ?_⟩⟩
    refine ⟨_, results_c34_28 rfl _ _ (w.heap.size + 1) (w.heap.size + 1 + 1) (u8A (d.sure i)) .nilIface rfl g1 (dk_isz HSL.out) rfl ((cell_of g2 0).trans rfl), rfl, ?_⟩
    exact ((below_setRow (below_drew hB) (by omega) _).setCell (p := ⟨w.heap.size + 1 + 1, 0, none⟩) (by show w.heap.size ≤ w.heap.size + 1 + 1; omega) _).trans (belowK_b (w := T) hle0 _ D _ _ hD hK2 rfl rfl)
  case stop =>
    rintro D c pre W hD ⟨k', hk', rfl⟩ ⟨⟨rfl, h1, ini, last, ⟨e1, e2, e3⟩, h2⟩, hB⟩ hK
    obtain ⟨hl1, hl2⟩ := lastW_came e1 e2 e3
    have hlen : last.2.2.length = 128 := by simpa [wrC] using HROW.out _ hl2
    have hres2 : res = last.2.2 := by rw [HRES.out, hl1]; rfl
    rw [secN_eq hlen] at h2
    subst hres2
    refine wpIn_wide.2 ?_
    go_wp2
    have g1 : (W.putObj D (.deferred none)).heap[w.heap.size + 1]? = some (.cells (u8A last.2.2) 34 (0, 0)) := (World.putObj_heap_other (by have := HSZ.out; omega)).trans h2
    have g2 : (W.putObj D (.deferred none)).heap[w.heap.size + 1 + 1]? = some (.cells #[.nilIface] 28 (0, 0)) := (World.putObj_heap_other (by have := HSZ.out; omega)).trans h1
    refine ⟨by simp, .inl ⟨_, _, rfl, run_takeDeferred hK, ?_⟩⟩
    refine ⟨_, results_c34_28 rfl _ _ (w.heap.size + 1) (w.heap.size + 1 + 1) (u8A last.2.2) .nilIface rfl g1 (dk_isz hlen) rfl ((cell_of g2 0).trans rfl), rfl, ?_⟩
    exact hB.trans (belowK_b (w := T) hle0 _ D _ _ hD hK rfl rfl)
theorem dk_readLen {B : Nat} {w0 w : World} {m r : List Asr} {v : Value} {d : Dk} (i : Int) (H : Cx B w0 w m) (k : At m (.own dkR v d) r) : (d.read i).1.length = 128 := by
  obtain ⟨b, A, W, rfl, HWF, H0⟩ := H.openDk k
  have h1 := H0.lookLen (x := (d.cnt, d.sure)) (by repeat (with_reducible (first | exact At.here | apply At.there))) i
  obtain ⟨A2, c2, _, _, hrow, _⟩ := H0.bigLen (xs := d.waiting) (by repeat (with_reducible (first | exact At.here | apply At.there)))
  unfold Dk.read
  split
  · exact sz0_len
  · split
    · exact sz0_len
    · simp only
      cases hl : lastW d.waiting i with
      | none => exact h1
      | some s =>
        unfold lastW at hl
        obtain ⟨x, hx, rfl⟩ := Option.map_eq_some_iff.1 hl
        have := hrow x (List.mem_reverse.1 (List.mem_of_find?_eq_some hx))
        simpa [wrC] using this
theorem dk_read {B : Nat} {w0 w : World} {m r : List Asr} {v : Value} {d : Dk} (i : Int) (hi : (Lit.int .i64 i).wf = true) (H : Cx B w0 w m) (k : At m (.own dkR v d) r) (hl : d.waiting.length < 100000) :
    Calls Try.prog 16 #[v, .int .i64 i] w fun e w1 => e = .returned (.tuple #[.agg (u8A (d.read i).1), errW (d.read i).2]) ∧ Cx B w0 w1 m := by
  by_cases hb : d.gone = true ∨ d.has i = false
  · exact (dk_read_bad i H k hb).mono fun e w1 h => ⟨h.1, H.below h.2⟩
  · have h1 : d.gone = false := by cases h : d.gone <;> simp_all
    have h2 : d.has i = true := by cases h : d.has i <;> simp_all
    refine (dk_read_ok i hi H k hl h1 h2).mono ?_
    rintro e w1 ⟨rfl, hb⟩
    refine ⟨?_, H.below hb⟩
    have : (d.read i).2 = none := by simp [Dk.read, h1, h2]
    rw [this]
    rfl

-- AUX DKL
theorem yieldsIf_load_cell {P : Program} {ops : Array Oper} {S : World → Prop} {op : Oper} {a : Act} (hw : Region.wanted op (yielded ops a.tmps) = true) (ty : TypeId) (x : Operand) (ho : op.op = .load ty x)
    (b o : Nat) (hx : a.eval x = .pointer (some ⟨b, o, none⟩)) (v : Value) (hag : ∀ w, (isAgg ty).run P w = .ok false w) (hS : ∀ w, S w → w.cell? ⟨b, o, none⟩ = some v) : YieldsIf P ops S op v a :=
  .inl ⟨hw, fun w hw' => by
    have hl : (loadVar ty ⟨b, o, none⟩).run P w = .ok v w := by simp [loadVar, hag w, hS w hw']
    unfold execOp
    simp only [ho, hx, Instr.loadAt, Instr.sureAddr, Sem.run_bind, Sem.run_pure, Result.andThen_ok, hl]⟩
theorem rangeAt_u8A {W : World} {g t : Nat} {fr : Nat × Nat} {s : List Int} (h : W.heap[g]? = some (.cells (u8A s) t fr)) : W.rangeAt g 0 (s.map (Value.int .u8)) := fun j v hv => by
  rw [cell_of h, Nat.zero_add]
  simpa [u8A] using hv
theorem Cx.low {B : Nat} {w0 w : World} {m r : List Asr} {b : Nat} {o : Obj} (h : Cx B w0 w m) (k : At m (.blk b o) r) : b < w.heap.size := blk_size (h.blk k)
theorem there_blk {W : World} {g t : Nat} {cs : Array Value} (h : W.heap[g]? = some (.cells cs t (0, 0))) (o n : Nat) (hn : o + n ≤ cs.size) : W.there g o n := fun j hj => ⟨by rw [cell_of h, Array.getElem?_eq_getElem (by omega)]; rfl, frozen_of h _⟩
theorem u8A_toList (s : List Int) : (u8A s).toList = s.map (Value.int .u8) := by simp [u8A]
/-- What a sector is, with the writes that wait. -/
def Dk.view (d : Dk) (i : Int) : List Int := (lastW d.waiting i).getD (d.sure i)
theorem lastW_snoc (ws : List (Int × List Int)) (n : Int) (s : List Int) (i : Int) : lastW (ws ++ [(n, s)]) i = if i = n then some s else lastW ws i := by
  unfold lastW
  rw [List.reverse_append, List.reverse_singleton, List.singleton_append, List.find?_cons]
  by_cases h : i = n
  · subst h; simp
  · rw [if_neg h, show ((n == i) = false) from by simpa using fun e => h e.symm]
theorem setF_all (ws : List (Int × List Int)) (f : Int → List Int) (i : Int) : ∀ k, k ≤ ws.length → setF (fun _ => true) ws f k i = (lastW (ws.take k) i).getD (f i)
  | 0, _ => by simp [setF, lastW]
  | k + 1, h => by
    obtain ⟨x, hx⟩ : ∃ x, ws[k]? = some x := ⟨_, List.getElem?_eq_getElem (by omega)⟩
    have ih := setF_all ws f i k (by omega)
    rw [List.take_add_one, hx, Option.toList_some, lastW_snoc]
    simp only [setF, if_true, updF, List.getD_eq_getElem?_getD, hx, Option.getD_some]
    by_cases h2 : i = x.1
    · rw [if_pos h2, if_pos h2]; rfl
    · rw [if_neg h2, if_neg h2]; exact ih
theorem Dk.flush_view {d : Dk} (h : d.off = false) (i : Int) : d.flush.view i = d.view i ∧ d.flush.sure i = d.view i := by
  have e := setF_all d.waiting d.sure i d.waiting.length (Nat.le_refl _)
  rw [List.take_length] at e
  have h1 : d.flush = d.step.settle (fun _ => true) := by simp [Dk.flush, h]
  have h2 := d.step_rest
  have h3 : d.flush.sure i = d.view i := by
    rw [h1]
    unfold Dk.settle Dk.view
    simp only [h2.2.1, h2.2.2.1, h2.2.2.2.1]
    exact e
  refine ⟨?_, h3⟩
  rw [← h3, h1]
  rfl
theorem Dk.flush_rest {d : Dk} (h : d.off = false) : d.flush.gone = d.gone ∧ d.flush.armed = d.armed ∧ d.flush.size = d.size ∧ d.flush.cnt = d.cnt + d.waiting.length ∧ d.flush.waiting = [] := by
  have h1 : d.flush = d.step.settle (fun _ => true) := by simp [Dk.flush, h]
  rw [h1]
  unfold Dk.settle Dk.step
  simp [h]
theorem Dk.write_yes {d : Dk} {i : Int} {s : List Int} (h1 : d.has i = true) (h2 : d.off = false) : d.write i s = { d.step with waiting := d.waiting ++ [(i, s)] } := by simp [Dk.write, h1, h2]
theorem Dk.write_no {d : Dk} {i : Int} {s : List Int} (h1 : d.has i = false) : d.write i s = d := by simp [Dk.write, h1]
theorem Dk.write_view {d : Dk} {i : Int} {s : List Int} (h1 : d.has i = true) (h2 : d.off = false) : (d.write i s).view = updF d.view i s := by
  funext j
  rw [Dk.write_yes h1 h2]
  unfold Dk.view updF
  simp only [lastW_snoc, d.step_rest.2.2.1]
  by_cases h : j = i
  · simp [h]
  · simp [h]
theorem Dk.write_rest {d : Dk} {i : Int} {s : List Int} (h1 : d.has i = true) (h2 : d.off = false) : (d.write i s).gone = d.gone ∧ (d.write i s).armed = d.armed ∧ (d.write i s).size = d.size ∧ (d.write i s).cnt = d.cnt ∧ (d.write i s).waiting.length = d.waiting.length + 1 := by
  rw [Dk.write_yes h1 h2]
  unfold Dk.step
  simp [h2]
theorem Dk.read_view {d : Dk} {i : Int} (h1 : d.gone = false) (h2 : d.has i = true) : d.read i = (d.view i, none) := by simp [Dk.read, Dk.view, h1, h2]
theorem Dk.off_no {d : Dk} (h1 : d.gone = false) (h2 : d.armed = false) : d.off = false := by simp [Dk.off, h1, h2]
/-- Six sectors in a row. -/
def flat6 (f : Int → List Int) : List Int := f 0 ++ (f 1 ++ (f 2 ++ (f 3 ++ (f 4 ++ f 5))))
theorem flat6_len {f : Int → List Int} (h : ∀ i, (f i).length = 128) : (flat6 f).length = 768 := by simp [flat6, h]
theorem six {P : Nat → Prop} (h0 : P 0) (h1 : P 1) (h2 : P 2) (h3 : P 3) (h4 : P 4) (h5 : P 5) : ∀ i, i < 6 → P i := by
  intro i hi
  rcases i with _ | _ | _ | _ | _ | _ | i
  · exact h0
  · exact h1
  · exact h2
  · exact h3
  · exact h4
  · exact h5
  · omega
theorem app_at {α : Type} (a b : List α) (n : Nat) (h : a.length = n) (j : Nat) : (a ++ b)[n + j]? = b[j]? := by
  rw [List.getElem?_append_right (by omega)]
  congr 1
  omega
theorem flat6_at {f : Int → List Int} (h : ∀ i, (f i).length = 128) (j : Nat) (hj : j < 128) : ∀ i : Nat, i < 6 → (flat6 f)[i * 128 + j]? = (f (i : Int))[j]? := by
  have g : ∀ (i : Int) (b : List Int), (f i ++ b)[j]? = (f i)[j]? := fun i b => List.getElem?_append_left (by rw [h]; exact hj)
  have t : ∀ (i : Int) (b : List Int) (q : Nat), (f i ++ b)[128 + q]? = b[q]? := fun i b q => app_at _ _ 128 (h i) q
  unfold flat6
  apply six
  · rw [show 0 * 128 + j = j by omega]; exact g 0 _
  · rw [show (0 + 1) * 128 + j = 128 + j by omega, t]; exact g 1 _
  · rw [show (0 + 1 + 1) * 128 + j = 128 + (128 + j) by omega, t, t]; exact g 2 _
  · rw [show (0 + 1 + 1 + 1) * 128 + j = 128 + (128 + (128 + j)) by omega, t, t, t]; exact g 3 _
  · rw [show (0 + 1 + 1 + 1 + 1) * 128 + j = 128 + (128 + (128 + (128 + j))) by omega, t, t, t, t]; exact g 4 _
  · rw [show (0 + 1 + 1 + 1 + 1 + 1) * 128 + j = 128 + (128 + (128 + (128 + (128 + j)))) by omega, t, t, t, t, t]; rfl
theorem flat6_put {f : Int → List Int} (h : ∀ i, (f i).length = 128) (s : List Int) (hs : s.length = 128) : ∀ i : Nat, i < 6 → (flat6 f).take (i * 128) ++ s ++ (flat6 f).drop (i * 128 + 128) = flat6 (updF f (i : Int) s) := by
  unfold flat6 updF
  apply six <;> simp [List.take_append, List.drop_append, h, List.take_of_length_le, List.drop_of_length_le]
theorem putAt_u8A (l s : List Int) (k : Nat) : putAt (u8A l) k (s.map (Value.int .u8)) = u8A (l.take k ++ s ++ l.drop (k + s.length)) := by
  simp [putAt, u8A]
theorem Only.setCells_ {w : World} {g : Nat} : ∀ (l : List Value) (o : Nat) (W : World), Only w W (fun i => i = g) → Only w (W.setCells g o l) (fun i => i = g)
  | [], _, _, h => h
  | v :: l, o, W, h => Only.setCells_ l (o + 1) _ (h.setCell (p := ⟨g, o, none⟩) (.inl rfl) v)
theorem setCells_blk {g t : Nat} {fr : Nat × Nat} : ∀ (l : List Value) (o : Nat) (W : World) (cs : Array Value), W.heap[g]? = some (.cells cs t fr) → o + l.length ≤ cs.size → (W.setCells g o l).heap[g]? = some (.cells (putAt cs o l) t fr)
  | [], o, W, cs, h, _ => by
    rw [show putAt cs o [] = cs from by simp [putAt]]
    exact h
  | v :: l, o, W, cs, h, hl => by
    have h1 := setCell_here h o v
    have ih := setCells_blk l (o + 1) _ _ h1 (by simp only [List.length_cons] at hl; simp; omega)
    have e : putAt (cs.setIfInBounds o v) (o + 1) l = putAt cs o (v :: l) := by
      have hf := fold_put (v :: l) 0 o cs (by simpa using hl)
      have hg := fold_put l 1 o (cs.setIfInBounds (o + 0) v) (by simp only [List.length_cons] at hl; simp; omega)
      rw [List.zipIdx_cons, List.foldl_cons, hg] at hf
      exact hf
    rw [← e]
    exact ih
theorem CxS.setMid {B : Nat} {w0 w : World} {n : Nat} {m r : List Asr} {g t : Nat} {cs : Array Value} (h : CxS B w0 w n m) (k : At m (.blk g (.cells cs t (0, 0))) r) (o : Nat) (l : List Value) (hl : o + l.length ≤ cs.size) :
    CxS B w0 (w.setCells g o l) n (.blk g (.cells (putAt cs o l) t (0, 0)) :: r) := by
  obtain ⟨h, rfl⟩ := h
  obtain ⟨S, ha, hs, hr, hc⟩ := (h.find k).open_
  have ho := Only.setCells_ (g := g) l o w (Only.refl _ _)
  have hsz : (w.setCells g o l).heap.size = w.heap.size := by
    clear ho hc hs hr ha
    have : ∀ (l : List Value) (o : Nat) (W : World), (W.setCells g o l).heap.size = W.heap.size := by
      intro l
      induction l with
      | nil => intro o W; rfl
      | cons v l ih => intro o W; rw [World.setCells, ih]; simp [World.setCell]
    exact this l o w
  exact ⟨hc _ [.blk g (.cells (putAt cs o l) t (0, 0))] (ho.mono fun i hi => by subst hi; exact ha.1) ⟨fun i => i = g, ⟨rfl, setCells_blk l o w cs ha.2 hl⟩, fun i hi => .inl (by subst hi; exact ha.1), trivial⟩, hsz⟩
theorem Cx.six {B : Nat} {w0 w : World} {m r : List Asr} {g : Nat} {t : Nat} {f : Int → List Int} (H : Cx B w0 w m) (k : At m (.blk g (.cells (u8A (flat6 f)) t (0, 0))) r) (h : ∀ i, (f i).length = 128) (i : Nat) (hi : i < 6) : w.rangeAt g (i * 128) ((f (i : Int)).map (Value.int .u8)) := fun j v hv => by
  have hj : j < 128 := by
    have := (List.getElem?_eq_some_iff.1 hv).1
    simpa [h] using this
  rw [cell_of (H.blk k), u8A, List.getElem?_toArray, List.getElem?_map, flat6_at h j hj i hi, ← List.getElem?_map]
  exact hv
theorem Dk.view_len {B : Nat} {w0 w : World} {m r : List Asr} {v : Value} {d : Dk} (H : Cx B w0 w m) (k : At m (.own dkR v d) r) (i : Int) : (d.view i).length = 128 := by
  obtain ⟨b, A, W, rfl, HWF, H0⟩ := H.openDk k
  have h1 := H0.lookLen (x := (d.cnt, d.sure)) (by repeat (with_reducible (first | exact At.here | apply At.there))) i
  obtain ⟨A2, c2, _, _, hrow, _⟩ := H0.bigLen (xs := d.waiting) (by repeat (with_reducible (first | exact At.here | apply At.there)))
  unfold Dk.view
  cases hl : lastW d.waiting i with
  | none => exact h1
  | some s =>
    unfold lastW at hl
    obtain ⟨x, hx, rfl⟩ := Option.map_eq_some_iff.1 hl
    have := hrow x (List.mem_reverse.1 (List.mem_of_find?_eq_some hx))
    simpa [wrC] using this
theorem dk_info6 : (Try.prog.info? 46).map (·.size) = some 768 := by kernel_rfl
theorem dk_zero6 (W : World) : (zeroValue 46).run Try.prog W = .ok (.agg (u8A (flat6 fun _ => sz0))) W := by
  have h : (Try.prog.info? 46).map (·.zero) = some (some (.agg (u8A (flat6 fun _ => sz0)))) := by kernel_rfl
  obtain ⟨i, hi, hz⟩ := Option.map_eq_some_iff.1 h
  simp [zeroValue, typeInfo, hi, hz]

-- AUX DKN
theorem u8A_set_ (s : List Int) (i : Nat) (y : Int) : (u8A s).setIfInBounds i (.int .u8 y) = u8A (s.set i y) := by simp [u8A]
def filled (b : Int) (i : Nat) : List Int := List.replicate i b ++ List.replicate (128 - i) 0
theorem filled_len (b : Int) (i : Nat) (h : i ≤ 128) : (filled b i).length = 128 := by simp [filled]; omega
theorem filled_set (b : Int) (i : Nat) (h : i < 128) : (filled b i).set i b = filled b (i + 1) := by
  unfold filled
  rw [List.set_append, if_neg (by simp), List.length_replicate, Nat.sub_self, show 128 - i = (128 - (i + 1)) + 1 by omega, List.replicate_succ, List.set_cons_zero, List.replicate_succ', List.append_assoc]
  rfl
def fullS (b : Int) : List Int := List.replicate 128 b
theorem fullS_len (b : Int) : (fullS b).length = 128 := by simp [fullS]
theorem filled_all (b : Int) : filled b 128 = fullS b := by simp [filled, fullS]
set_option maxRecDepth 100000 in
set_option maxHeartbeats 2000000 in
theorem dk_full (b : Int) (w : World) : Calls Try.prog 13 #[.int .u8 b] w fun e w1 => e = .returned (.agg (u8A (fullS b))) ∧ Below w.heap.size w w1 := by
  have hz := dk_zero
  have H0 := Cx.start w
  have F : True := trivial
  go_enter Try.func13, Try.ntmps13
  go_wp2_with ((((with_reducible refine gate_store (t := 34) (x := .tmp 3) (y := .tmp 5) rfl ?_); (apply Cx.atList); (focus ((repeat (with_reducible (first | exact (H0).toS | exact At.here | apply At.there | apply CxS.drewN | apply CxS.drew | apply CxS.alloc | apply CxS.set | apply CxS.setRow))))); intro HT_; refine wpList_store_row rfl 34 (.tmp 3) (.tmp 5) rfl (w.heap.size + 1) (u8A sz0) rfl rfl _ _ (HT_.blk (by repeat (with_reducible (first | exact At.here | apply At.there)))) (dk_isz sz0_len) (rfl) (u8A_one _) ?_; clear HT_); clear F; (apply Cx.genList); (focus ((repeat (with_reducible (first | exact (H0).toS | exact At.here | apply At.there | apply CxS.drewN | apply CxS.drew | apply CxS.alloc | apply CxS.set | apply CxS.setRow))))); clear H0; intro w1 H1; have F := (H1).facts; simp only [factsOf, Asr.facts, blkFacts, cellsAre, List.toList_toArray, forall_const, Nat.zero_add, Nat.reduceAdd, and_true, true_and] at F))
  clear F
  go_loopw [6] (fun v6 wr => ∃ i : Nat, i ≤ 128 ∧ v6 = .int .i64 i ∧ Cx w.heap.size w wr [.blk (w.heap.size + 1) (.cells (u8A (filled b i)) 34 (0, 0)), .blk w.heap.size (.cells (u8A sz0) 34 (0, 0))]) (fun v6 _ => 128 - (intOf v6).toNat)
  case atStart => exact ⟨0, by omega, rfl, by simpa [filled, sz0] using H1⟩
  case round =>
    clear H1
    obtain ⟨i, hi, rfl, H2⟩ := hrel
    have hbk := H2.blk (b := w.heap.size + 1) (o := .cells (u8A (filled b i)) 34 (0, 0)) (by repeat (with_reducible (first | exact At.here | apply At.there)))
    have HBK := Aside0.mk hbk
    by_cases hlt : i < 128
    · have ci : wr.cell? ⟨w.heap.size + 1, i, none⟩ = some (.int .u8 ((filled b i)[i]'(by rw [filled_len _ _ hi]; exact hlt))) := by
        rw [cell_of hbk, u8A, List.getElem?_toArray, List.getElem?_map, List.getElem?_eq_getElem (by rw [filled_len _ _ hi]; exact hlt)]
        rfl
      have fi := frozen_of hbk i
      have h0 : (0 : Int) ≤ (i : Int) := by omega
      have h1 : (i : Int) < 128 := by omega
      clear hbk
      go_wp2
      refine ⟨⟨i + 1, by omega, by go_num, ?_⟩, by simp [intOf]; omega⟩
      have H3 := (H2.toS.set (b := w.heap.size + 1) (cs := u8A (filled b i)) (by repeat (with_reducible (first | exact At.here | apply At.there))) i (.int .u8 b)).cx
      rw [u8A_set_, filled_set b i hlt] at H3
      exact H3
    · obtain rfl : i = 128 := by omega
      rw [filled_all] at H2 HBK
      clear hbk
      have F : True := trivial
      go_wp2_with (first | ((with_reducible refine gate_load (t := 34) (x := .tmp 3) rfl ?_); (apply Cx.atList); (focus ((repeat (with_reducible (first | exact (H2).toS | exact At.here | apply At.there | apply CxS.drewN | apply CxS.drew | apply CxS.alloc | apply CxS.set | apply CxS.setRow))))); intro HT_; refine wpList_load_row rfl 34 (.tmp 3) rfl (w.heap.size + 1) rfl _ (u8A (fullS b)) _ _ (HT_.blk (by repeat (with_reducible (first | exact At.here | apply At.there)))) Try.underlying34 rfl (dk_isz (fullS_len b)) ?_; clear HT_) | (((with_reducible refine gate_store (t := 34) (x := .tmp 2) (y := .tmp 13) rfl ?_); (apply Cx.atList); (focus ((repeat (with_reducible (first | exact (H2).toS | exact At.here | apply At.there | apply CxS.drewN | apply CxS.drew | apply CxS.alloc | apply CxS.set | apply CxS.setRow))))); intro HT_; refine wpList_store_row rfl 34 (.tmp 2) (.tmp 13) rfl (w.heap.size) (u8A (fullS b)) rfl rfl _ _ (HT_.blk (by repeat (with_reducible (first | exact At.here | apply At.there)))) (dk_isz (fullS_len b)) (by rw [u8A_size, u8A_size, sz0_len, fullS_len]) (u8A_one _) ?_; clear HT_); clear F; (apply Cx.genList); (focus ((repeat (with_reducible (first | exact (H2).toS | exact At.here | apply At.there | apply CxS.drewN | apply CxS.drew | apply CxS.alloc | apply CxS.set | apply CxS.setRow))))); clear H2; intro w3 H3; have F := (H3).facts; simp only [factsOf, Asr.facts, blkFacts, cellsAre, List.toList_toArray, forall_const, Nat.zero_add, Nat.reduceAdd, and_true, true_and] at F))
      ((try simp only [Exit.inBlock, Exit.then]); (apply Cx.atPost); (focus ((repeat (with_reducible (first | exact (H3).toS | exact At.here | apply At.there | apply CxS.drewN | apply CxS.drew | apply CxS.alloc | apply CxS.set | apply CxS.setRow))))); intro HT)
      exact bodyPost_ret (results_cell_row rfl _ _ w.heap.size _ (u8A (fullS b)) (0, 0) _ rfl (HT.blk (by repeat (with_reducible (first | exact At.here | apply At.there)))) Try.underlying34 rfl (dk_isz (fullS_len b))) rfl ⟨by first | rfl | trivial, HT.bel⟩

/-! ### laminalaw02_long: function 10 -/
def laminalaw02_long.l0 : Nat → List (S36) → Int → Int → Option (Bool)
  | 0, _, _, _ => none
  | k + 1, x5, x6, x7 => if x7 < x6 then (if 0 ≤ x7 then (if x7 < (x5.length : Int) then (if x7 > 80 then (some true) else (if (((rd_T36 x5 x7).f3).length : Int) > 200 then (some true) else (laminalaw02_long.l0 k x5 x6 (wrap64 (x7 + 1))))) else (none)) else (none)) else (some false)
def laminalaw02_long.f (k : Nat) (l0 : List (S36)) : Option (Bool) := laminalaw02_long.l0 k l0 (l0.length : Int) 0
theorem laminalaw02_long.mono_l : ∀ k, (∀ y0 y1 y2, LeO (laminalaw02_long.l0 k y0 y1 y2) (laminalaw02_long.l0 (k + 1) y0 y1 y2))
  | 0 => fun _ _ _ r h => by simp [laminalaw02_long.l0] at h
  | k + 1 => by
    have ih0 := laminalaw02_long.mono_l k
    · intro y0 y1 y2
      unfold laminalaw02_long.l0
      repeat' first
      | (with_reducible exact ih0 _ _ _)
      | (with_reducible exact LeO.refl _)
      | (with_reducible exact LeO.none _)
      | (with_reducible refine LeO.ite ?_ ?_)
      | (with_reducible refine LeO.bind ?_ (fun _ => ?_))
      | exact ih0 _ _ _
      | exact LeO.none _
      | refine LeO.ite ?_ ?_
      | refine LeO.bind ?_ (fun _ => ?_)
theorem laminalaw02_long.mono : ∀ a0 k, LeO (laminalaw02_long.f k a0) (laminalaw02_long.f (k + 1) a0) := by
  intro a0 k
  have ih0 := laminalaw02_long.mono_l k
  unfold laminalaw02_long.f
  repeat' first
      | (with_reducible exact ih0 _ _ _)
      | (with_reducible exact LeO.refl _)
      | (with_reducible exact LeO.none _)
      | (with_reducible refine LeO.ite ?_ ?_)
      | (with_reducible refine LeO.bind ?_ (fun _ => ?_))
      | exact ih0 _ _ _
      | exact LeO.none _
      | refine LeO.ite ?_ ?_
      | refine LeO.bind ?_ (fun _ => ?_)
set_option maxHeartbeats 8000000 in
set_option maxRecDepth 100000 in
theorem laminalaw02_long.calls (k : Nat) (A0 : Option Addr) (c0 : Nat) (l0 : List (S36)) (r : Bool) (w : World) (hr0 : Kd.C k36 w A0 l0.length l0) (hc0 : l0.length ≤ c0) (h : laminalaw02_long.f k l0 = some r) :
    Calls Try.prog 10 #[.slice A0 l0.length c0] w fun e w' => e = .returned (.bool r) ∧ Below w.heap.size w w' := by
  have hu36 := Try.underlying36
  have HR0 := Aside0.mk hr0
  have HC0 := Aside0.mk hc0
  clear hr0 hc0
  have HB := Aside0.mk (Below.refl w.heap.size w)
  have H : (laminalaw02_long.l0 k l0 (l0.length : Int) 0) = some r := h
  clear h
  have H' := Aside0.mk H
  clear H
  go_enter Try.func10, Try.ntmps10
  go_wp2
  go_loopg [7] k (fun kq v7 w' => ∃ (x7_1 : Int), v7 = .int .i64 x7_1 ∧ Aside0 (laminalaw02_long.l0 kq l0 (l0.length : Int) x7_1 = some r) ∧ Aside0 (kq ≤ k) ∧ Aside0 (Below w.heap.size w w'))
  case atStart => exact ⟨(0), (by first | rfl | (simp; done) | (simp [*]; done)), H', ⟨Nat.le_refl _⟩, ⟨by repeat (first | (with_reducible first | exact HB.out | apply below_alloc | apply pw_below_drewN | apply below_drew1) | exact HB.out)⟩⟩
  case round =>
    clear H'
    try clear c1
    obtain ⟨x7_1, rfl, HA, HK1, HB⟩ := hrel
    cases gk with
    | zero => exact absurd HA.out (by simp [laminalaw02_long.l0])
    | succ k1 =>
      have H := HA.out
      clear HA
      simp only [laminalaw02_long.l0] at H
      by_cases c2 : x7_1 < (l0.length : Int)
      · rw [if_pos c2] at H
        have c2b0 : decide (x7_1 < (l0.length : Int)) = true := decide_eq_true c2
        clear c2
        by_cases c3 : 0 ≤ x7_1
        · rw [if_pos c3] at H
          have c3b0 : decide (0 ≤ x7_1) = true := decide_eq_true c3
          clear c3
          by_cases c4 : x7_1 < (l0.length : Int)
          · rw [if_pos c4] at H
            have c4b0 : decide (x7_1 < (l0.length : Int)) = true := decide_eq_true c4
            clear c4
            by_cases c5 : x7_1 > 80
            · rw [if_pos c5] at H
              have c5b0 : decide (80 < x7_1) = true := decide_eq_true c5
              clear c5
              obtain rfl := Option.some.inj H
              have p103 : 0 ≤ (x7_1 : Int) := of_decide_eq_true (by first | (with_reducible assumption) | assumption)
              have q103 : x7_1 < (l0.length : Int) := of_decide_eq_true (by first | (with_reducible assumption) | assumption)
              obtain ⟨ad103, A103_3, c103_3, e103, hx103_0, hx103_1, hx103_2, hx103_3, hl103_3, hi103_3⟩ := at_T36 HR0.out x7_1 p103 q103
              cases e103
              replace hx103_0 := (HB.out.cell (World.block_lt_of_cell? w _ hx103_0)).trans hx103_0
              replace hx103_1 := (HB.out.cell (World.block_lt_of_cell? w _ hx103_1)).trans hx103_1
              replace hx103_2 := (HB.out.cell (World.block_lt_of_cell? w _ hx103_2)).trans hx103_2
              replace hx103_3 := (HB.out.cell (World.block_lt_of_cell? w _ hx103_3)).trans hx103_3
              have HR103_3 := Aside0.mk hi103_3
              have HC103_3 := Aside0.mk hl103_3
              clear hi103_3 hl103_3
              replace p103 := eq_true p103
              replace q103 := eq_true q103
              go_wp2_with (first | ((with_reducible refine gate_dst (N := 4) rfl ?_); (try (refine gate_guard (by rfl) ?_; dsimp only)); refine box_event ?hg (N := 4) ?hd (cs := #[.int .i64 0, .int .i64 0, .int .u8 0, .slice none 0 0]) (t := 36) ?hr ?_; (case hd => rfl); (case hg => rfl); (case hr => first | (go_simp; done) | (go_simp; rfl)); intro gb104 hg w6 hbox hb; have n0_ := Aside0.mk (below_step (by repeat (first | (with_reducible first | exact HB.out | apply below_alloc | apply pw_below_drewN | apply below_drew1) | exact HB.out)) hb); have n1_ := Aside0.mk (hbox); have n2_ := Aside0.mk ((by rw [hg]; exact (below_size (by repeat (first | (with_reducible first | exact HB.out | apply below_alloc | apply pw_below_drewN | apply below_drew1) | exact HB.out))) : w.heap.size ≤ gb104)); have n3_ := Aside0.mk ((by rw [hg]; exact (below_size (by repeat (first | (with_reducible first | exact HB.out | apply below_alloc | apply pw_below_drewN | apply below_drew1) | exact HB.out))) : w.heap.size ≤ gb104)); clear HB; have HB := n0_; have BK104 := n1_; have GW104 := n2_; have GE104 := n3_; clear n0_ n1_ n2_ n3_; clear hb hbox hg; have hcz7_0 : w6.cell? ⟨gb104, 0, none⟩ = some (.int .i64 0) := (blk_cell BK104.out 0).trans rfl; have hcz7_1 : w6.cell? ⟨gb104, 1, none⟩ = some (.int .i64 0) := (blk_cell BK104.out 1).trans rfl; have hcz7_2 : w6.cell? ⟨gb104, 2, none⟩ = some (.int .u8 0) := (blk_cell BK104.out 2).trans rfl; have hcz7_3 : w6.cell? ⟨gb104, 3, none⟩ = some (.slice none 0 0) := (blk_cell BK104.out 3).trans rfl; have hfz7_0 := blk_frozen BK104.out 0; have hfz7_1 := blk_frozen BK104.out 1; have hfz7_2 := blk_frozen BK104.out 2; have hfz7_3 := blk_frozen BK104.out 3))
              go_ret
              exact ⟨by first | rfl | (simp [errW_none, errW_some] <;> rfl) | (simp [*, errW_none, errW_some] <;> rfl), by repeat (first | (with_reducible first | exact HB.out | apply below_alloc | apply pw_below_drewN | apply below_drew1 | refine below_set ?_ GE104.out) | exact HB.out)⟩
            · rw [if_neg c5] at H
              have c5b0 : decide (80 < x7_1) = false := decide_eq_false c5
              clear c5
              by_cases c8 : (((rd_T36 l0 x7_1).f3).length : Int) > 200
              · rw [if_pos c8] at H
                have c8b0 : decide (200 < (((rd_T36 l0 x7_1).f3).length : Int)) = true := decide_eq_true c8
                have c8b1 : decide (200 < ((rd_T36 l0 x7_1).f3).length) = true := decide_eq_true (by omega)
                clear c8
                obtain rfl := Option.some.inj H
                have p103 : 0 ≤ (x7_1 : Int) := of_decide_eq_true (by first | (with_reducible assumption) | assumption)
                have q103 : x7_1 < (l0.length : Int) := of_decide_eq_true (by first | (with_reducible assumption) | assumption)
                obtain ⟨ad103, A103_3, c103_3, e103, hx103_0, hx103_1, hx103_2, hx103_3, hl103_3, hi103_3⟩ := at_T36 HR0.out x7_1 p103 q103
                cases e103
                replace hx103_0 := (HB.out.cell (World.block_lt_of_cell? w _ hx103_0)).trans hx103_0
                replace hx103_1 := (HB.out.cell (World.block_lt_of_cell? w _ hx103_1)).trans hx103_1
                replace hx103_2 := (HB.out.cell (World.block_lt_of_cell? w _ hx103_2)).trans hx103_2
                replace hx103_3 := (HB.out.cell (World.block_lt_of_cell? w _ hx103_3)).trans hx103_3
                have HR103_3 := Aside0.mk hi103_3
                have HC103_3 := Aside0.mk hl103_3
                clear hi103_3 hl103_3
                replace p103 := eq_true p103
                replace q103 := eq_true q103
                go_wp2_with (first | ((with_reducible refine gate_dst (N := 4) rfl ?_); (try (refine gate_guard (by rfl) ?_; dsimp only)); refine box_event ?hg (N := 4) ?hd (cs := #[.int .i64 0, .int .i64 0, .int .u8 0, .slice none 0 0]) (t := 36) ?hr ?_; (case hd => rfl); (case hg => rfl); (case hr => first | (go_simp; done) | (go_simp; rfl)); intro gb104 hg w9 hbox hb; have n0_ := Aside0.mk (below_step (by repeat (first | (with_reducible first | exact HB.out | apply below_alloc | apply pw_below_drewN | apply below_drew1) | exact HB.out)) hb); have n1_ := Aside0.mk (hbox); have n2_ := Aside0.mk ((by rw [hg]; exact (below_size (by repeat (first | (with_reducible first | exact HB.out | apply below_alloc | apply pw_below_drewN | apply below_drew1) | exact HB.out))) : w.heap.size ≤ gb104)); have n3_ := Aside0.mk ((by rw [hg]; exact (below_size (by repeat (first | (with_reducible first | exact HB.out | apply below_alloc | apply pw_below_drewN | apply below_drew1) | exact HB.out))) : w.heap.size ≤ gb104)); clear HB; have HB := n0_; have BK104 := n1_; have GW104 := n2_; have GE104 := n3_; clear n0_ n1_ n2_ n3_; clear hb hbox hg; have hcz10_0 : w9.cell? ⟨gb104, 0, none⟩ = some (.int .i64 0) := (blk_cell BK104.out 0).trans rfl; have hcz10_1 : w9.cell? ⟨gb104, 1, none⟩ = some (.int .i64 0) := (blk_cell BK104.out 1).trans rfl; have hcz10_2 : w9.cell? ⟨gb104, 2, none⟩ = some (.int .u8 0) := (blk_cell BK104.out 2).trans rfl; have hcz10_3 : w9.cell? ⟨gb104, 3, none⟩ = some (.slice none 0 0) := (blk_cell BK104.out 3).trans rfl; have hfz10_0 := blk_frozen BK104.out 0; have hfz10_1 := blk_frozen BK104.out 1; have hfz10_2 := blk_frozen BK104.out 2; have hfz10_3 := blk_frozen BK104.out 3))
                go_ret
                exact ⟨by first | rfl | (simp [errW_none, errW_some] <;> rfl) | (simp [*, errW_none, errW_some] <;> rfl), by repeat (first | (with_reducible first | exact HB.out | apply below_alloc | apply pw_below_drewN | apply below_drew1 | refine below_set ?_ GE104.out) | exact HB.out)⟩
              · rw [if_neg c8] at H
                have c8b0 : decide (200 < (((rd_T36 l0 x7_1).f3).length : Int)) = false := decide_eq_false c8
                have c8b1 : decide (200 < ((rd_T36 l0 x7_1).f3).length) = false := decide_eq_false (by omega)
                clear c8
                have H' := Aside0.mk H
                clear H
                have p103 : 0 ≤ (x7_1 : Int) := of_decide_eq_true (by first | (with_reducible assumption) | assumption)
                have q103 : x7_1 < (l0.length : Int) := of_decide_eq_true (by first | (with_reducible assumption) | assumption)
                obtain ⟨ad103, A103_3, c103_3, e103, hx103_0, hx103_1, hx103_2, hx103_3, hl103_3, hi103_3⟩ := at_T36 HR0.out x7_1 p103 q103
                cases e103
                replace hx103_0 := (HB.out.cell (World.block_lt_of_cell? w _ hx103_0)).trans hx103_0
                replace hx103_1 := (HB.out.cell (World.block_lt_of_cell? w _ hx103_1)).trans hx103_1
                replace hx103_2 := (HB.out.cell (World.block_lt_of_cell? w _ hx103_2)).trans hx103_2
                replace hx103_3 := (HB.out.cell (World.block_lt_of_cell? w _ hx103_3)).trans hx103_3
                have HR103_3 := Aside0.mk hi103_3
                have HC103_3 := Aside0.mk hl103_3
                clear hi103_3 hl103_3
                replace p103 := eq_true p103
                replace q103 := eq_true q103
                go_wp2_with (first | ((with_reducible refine gate_dst (N := 4) rfl ?_); (try (refine gate_guard (by rfl) ?_; dsimp only)); refine box_event ?hg (N := 4) ?hd (cs := #[.int .i64 0, .int .i64 0, .int .u8 0, .slice none 0 0]) (t := 36) ?hr ?_; (case hd => rfl); (case hg => rfl); (case hr => first | (go_simp; done) | (go_simp; rfl)); intro gb104 hg w11 hbox hb; have n0_ := Aside0.mk (below_step (by repeat (first | (with_reducible first | exact HB.out | apply below_alloc | apply pw_below_drewN | apply below_drew1) | exact HB.out)) hb); have n1_ := Aside0.mk (hbox); have n2_ := Aside0.mk ((by rw [hg]; exact (below_size (by repeat (first | (with_reducible first | exact HB.out | apply below_alloc | apply pw_below_drewN | apply below_drew1) | exact HB.out))) : w.heap.size ≤ gb104)); have n3_ := Aside0.mk ((by rw [hg]; exact (below_size (by repeat (first | (with_reducible first | exact HB.out | apply below_alloc | apply pw_below_drewN | apply below_drew1) | exact HB.out))) : w.heap.size ≤ gb104)); clear HB; have HB := n0_; have BK104 := n1_; have GW104 := n2_; have GE104 := n3_; clear n0_ n1_ n2_ n3_; clear hb hbox hg; have hcz12_0 : w11.cell? ⟨gb104, 0, none⟩ = some (.int .i64 0) := (blk_cell BK104.out 0).trans rfl; have hcz12_1 : w11.cell? ⟨gb104, 1, none⟩ = some (.int .i64 0) := (blk_cell BK104.out 1).trans rfl; have hcz12_2 : w11.cell? ⟨gb104, 2, none⟩ = some (.int .u8 0) := (blk_cell BK104.out 2).trans rfl; have hcz12_3 : w11.cell? ⟨gb104, 3, none⟩ = some (.slice none 0 0) := (blk_cell BK104.out 3).trans rfl; have hfz12_0 := blk_frozen BK104.out 0; have hfz12_1 := blk_frozen BK104.out 1; have hfz12_2 := blk_frozen BK104.out 2; have hfz12_3 := blk_frozen BK104.out 3))
                go_roundg k1
                case measure => have := HK1.out; omega
                case rel => exact ⟨(wrap64 (x7_1 + 1)), (by first | rfl | (simp; done) | (simp [*]; done)), H', ⟨by have := HK1.out; omega⟩, ⟨by repeat (first | (with_reducible first | exact HB.out | apply below_alloc | apply pw_below_drewN | apply below_drew1 | refine below_set ?_ GE104.out) | exact HB.out)⟩⟩
          · rw [if_neg c4] at H
            exact absurd H (by simp)
        · rw [if_neg c3] at H
          exact absurd H (by simp)
      · rw [if_neg c2] at H
        have c2b0 : decide (x7_1 < (l0.length : Int)) = false := decide_eq_false c2
        clear c2
        obtain rfl := Option.some.inj H
        go_wp2
        go_ret
        exact ⟨by first | rfl | (simp [errW_none, errW_some] <;> rfl) | (simp [*, errW_none, errW_some] <;> rfl), by repeat (first | (with_reducible first | exact HB.out | apply below_alloc | apply pw_below_drewN | apply below_drew1) | exact HB.out)⟩

/-! ### laminalaw02_full: function 13 -/
/-- Is a script short enough to be played? -/
def laminalaw02_full.LongP (l : List S36) (r : Bool) : Prop := r = false → l.length ≤ 81 ∧ ∀ o ∈ l, o.f3.length ≤ 200
theorem laminalaw02_full.long_some (l : List S36) (hm : l.length ≤ 9223372036854775807) : ∀ (m i : Nat), i + m = l.length → ∃ r, laminalaw02_long.l0 (m + 1) l (l.length : Int) (i : Int) = some r ∧ (r = false → ∀ (j : Nat) (hj : j < l.length), i ≤ j → j ≤ 80 ∧ (l[j]).f3.length ≤ 200)
  | 0, i, h => by
    refine ⟨false, ?_, fun _ j hj hij => by omega⟩
    unfold laminalaw02_long.l0
    rw [if_neg (by omega)]
  | m + 1, i, h => by
    obtain ⟨r, hr, hp⟩ := laminalaw02_full.long_some l hm m (i + 1) (by omega)
    have hi : i < l.length := by omega
    have hrd : rd_T36 l (i : Int) = l[i] := by simp [rd_T36, hi]
    have hw : wrap64 ((i : Int) + 1) = ((i + 1 : Nat) : Int) := by unfold wrap64; omega
    unfold laminalaw02_long.l0
    rw [if_pos (by omega), if_pos (by omega), if_pos (by omega), hrd, hw]
    by_cases h1 : (i : Int) > 80
    · rw [if_pos h1]
      exact ⟨true, rfl, fun h => by cases h⟩
    · rw [if_neg h1]
      by_cases h2 : ((l[i].f3.length : Int)) > 200
      · rw [if_pos h2]
        exact ⟨true, rfl, fun h => by cases h⟩
      · rw [if_neg h2]
        refine ⟨r, hr, fun hf j hj hij => ?_⟩
        by_cases e : j = i
        · subst e; exact ⟨by omega, by omega⟩
        · exact hp hf j hj (by omega)
theorem laminalaw02_full.long_calls (A0 : Option Addr) (c0 : Nat) (l0 : List S36) (w : World) (hr0 : Kd.C k36 w A0 l0.length l0) (hc0 : l0.length ≤ c0) :
    Calls Try.prog 10 #[.slice A0 l0.length c0] w fun e w' => ∃ r, e = .returned (.bool r) ∧ laminalaw02_full.LongP l0 r ∧ Below w.heap.size w w' := by
  obtain ⟨r, hr, hp⟩ := laminalaw02_full.long_some l0 hr0.2.1 l0.length 0 (by omega)
  refine (laminalaw02_long.calls (l0.length + 1) A0 c0 l0 r w hr0 hc0 hr).mono ?_
  rintro e w' ⟨rfl, hb⟩
  refine ⟨r, rfl, fun hf => ⟨?_, fun o ho => ?_⟩, hb⟩
  · rcases Nat.lt_or_ge 81 l0.length with h | h
    · have := (hp hf 81 h (by omega)).1
      omega
    · exact h
  · obtain ⟨j, hj, rfl⟩ := List.getElem_of_mem ho
    exact (hp hf j hj (by omega)).2
def laminalaw02_full.OpsOk (l : List S36) : Prop := ∀ x ∈ l, (Lit.int .i64 x.f0).wf = true ∧ (Lit.int .i64 x.f1).wf = true ∧ (Lit.int .u8 x.f2).wf = true ∧ (x.f3.length * 1 ≤ 140737488351232 ∧ ∀ n ∈ x.f3, True)
theorem laminalaw02_full.ok_at {l : List S36} (h : laminalaw02_full.OpsOk l) (k : Nat) (hk : k < l.length) : (Lit.int .i64 (rd_T36 l k).f0).wf = true ∧ (Lit.int .i64 (rd_T36 l k).f1).wf = true ∧ rd_T36 l k ∈ l := by
  have e : rd_T36 l (k : Int) = l[k] := by simp [rd_T36, hk]
  rw [e]
  have := h l[k] (List.getElem_mem hk)
  exact ⟨this.1, this.2.1, List.getElem_mem hk⟩
/-- An act, as it lies in memory. -/
abbrev laminalaw02_full.opC (x : S36) (A : Option Addr) (c : Nat) : Array Value := #[.int .i64 x.f0, .int .i64 x.f1, .int .u8 x.f2, .slice A x.f3.length c]

/-! ### laminalaw02_alive: function 9 -/
abbrev AlS (w : World) (b : Nat) (d : Dk) (g3 g4 : Nat) (W : World) : Prop :=
  W.rangeAt g3 0 ((fullS 1).map (Value.int .u8)) ∧ W.rangeAt g4 0 ((fullS 3).map (Value.int .u8)) ∧ Cx w.heap.size w W [.own dkR (.pointer (some ⟨b, 0, none⟩)) d]
theorem rangeAt_below {W W' : World} {g o : Nat} {cs : List Value} (h : W.rangeAt g o cs) (hb : Below W.heap.size W W') : W'.rangeAt g o cs := fun j v hv => (hb.cell (p := ⟨g, o + j, none⟩) (World.block_lt_of_cell? W _ (h j v hv))).trans (h j v hv)
theorem AlS.below {w : World} {b : Nat} {d : Dk} {g3 g4 : Nat} {W W' : World} (h : AlS w b d g3 g4 W) (hb : Below W.heap.size W W') : AlS w b d g3 g4 W' := ⟨rangeAt_below h.1 hb, rangeAt_below h.2.1 hb, h.2.2.below hb⟩
theorem AlS.drew {w : World} {b : Nat} {d : Dk} {g3 g4 : Nat} {W : World} (h : AlS w b d g3 g4 W) : AlS w b d g3 g4 W.drew := h.below (below_drew (Below.refl _ _))
theorem AlS.cx {w : World} {b : Nat} {d : Dk} {g3 g4 : Nat} {W : World} (h : AlS w b d g3 g4 W) : Cx w.heap.size w W [.own dkR (.pointer (some ⟨b, 0, none⟩)) d] := h.2.2
theorem AlS.of {w W : World} {b : Nat} {d : Dk} {g3 g4 : Nat} {m r3 r4 : List Asr} (H : Cx w.heap.size w W (.own dkR (.pointer (some ⟨b, 0, none⟩)) d :: m)) (k3 : At m (.blk g3 (.cells (u8A (fullS 1)) 34 (0, 0))) r3) (k4 : At m (.blk g4 (.cells (u8A (fullS 3)) 34 (0, 0))) r4) : AlS w b d g3 g4 W :=
  ⟨fun j v hv => by rw [cell_of (H.tail.blk k3), Nat.zero_add]; simpa [u8A] using hv, fun j v hv => by rw [cell_of (H.tail.blk k4), Nat.zero_add]; simpa [u8A] using hv, H.head At.here⟩
set_option maxRecDepth 100000 in
set_option maxHeartbeats 8000000 in
theorem laminalaw02_alive.calls (w : World) : Calls Try.prog 9 #[] w fun e w' => e = .returned (.bool true) ∧ Below w.heap.size w w' := by
  have hz := dk_zero
  have h26 := Try.underlying26
  have Hc := Cx.start w
  go_enter Try.func9, Try.ntmps9
  go_wp2_with fail
  refine (dk_new 4 Hc (by decide)).mono ?_
  rintro e w1 ⟨b, rfl, H1⟩
  clear Hc
  go_wp2_with fail
  refine (dk_full 1 _).mono ?_
  rintro e w2 ⟨rfl, hb⟩
  have H2 := H1.below hb
  clear H1 hb
  go_wp2_with fail
  refine (dk_write 0 (fullS 1) (by decide) H2 (by repeat (with_reducible (first | exact At.here | apply At.there))) (fullS_len 1) (by decide)).mono ?_
  rintro e w3 ⟨rfl, H3⟩
  clear H2
  rw [show errW ((Dk.new 4).writeE 0) = .nilIface from rfl]
  obtain ⟨d1, hd1⟩ : ∃ d, d = (Dk.new 4).write 0 (fullS 1) := ⟨_, rfl⟩
  rw [← hd1] at H3
  have HD1 := Aside0.mk hd1
  clear hd1
  go_wp2_with fail
  refine (dk_flush (d := d1) (by rw [HD1.out]; decide) H3 (by repeat (with_reducible (first | exact At.here | apply At.there)))).mono ?_
  rintro e w4 ⟨rfl, H4⟩
  clear H3
  rw [show errW d1.offE = .nilIface from by rw [HD1.out]; rfl]
  obtain ⟨d2, hd2⟩ : ∃ d, d = d1.flush := ⟨_, rfl⟩
  rw [← hd2] at H4
  rw [HD1.out] at hd2
  have HD2 := Aside0.mk hd2
  clear hd2
  go_wp2_with fail
  refine (dk_full 2 _).mono ?_
  rintro e w5 ⟨rfl, hb⟩
  have H5 := H4.below hb
  clear H4 hb
  go_wp2_with fail
  refine (dk_write (d := d2) 0 (fullS 2) (by decide) H5 (by repeat (with_reducible (first | exact At.here | apply At.there))) (fullS_len 2) (by rw [HD2.out]; decide)).mono ?_
  rintro e w6 ⟨rfl, H6⟩
  clear H5
  rw [show errW (d2.writeE 0) = .nilIface from by rw [HD2.out]; rfl]
  obtain ⟨d3, hd3⟩ : ∃ d, d = d2.write 0 (fullS 2) := ⟨_, rfl⟩
  rw [← hd3] at H6
  rw [HD2.out] at hd3
  have HD3 := Aside0.mk hd3
  clear hd3
  go_wp2_with fail
  refine (dk_full 3 _).mono ?_
  rintro e w7 ⟨rfl, hb⟩
  have H7 := H6.below hb
  clear H6 hb
  go_wp2_with fail
  refine (dk_write (d := d3) 1 (fullS 3) (by decide) H7 (by repeat (with_reducible (first | exact At.here | apply At.there))) (fullS_len 3) (by rw [HD3.out]; decide)).mono ?_
  rintro e w8 ⟨rfl, H8⟩
  clear H7
  rw [show errW (d3.writeE 1) = .nilIface from by rw [HD3.out]; rfl]
  obtain ⟨d4, hd4⟩ : ∃ d, d = d3.write 1 (fullS 3) := ⟨_, rfl⟩
  rw [← hd4] at H8
  rw [HD3.out] at hd4
  have HD4 := Aside0.mk hd4
  clear hd4
  go_wp2_with fail
  refine (dk_waiting H8 (by repeat (with_reducible (first | exact At.here | apply At.there)))).mono ?_
  rintro e w9 ⟨rfl, rfl⟩
  rw [show d4.waiting.length = 2 from by rw [HD4.out]; rfl]
  go_wp2_with fail
  ((first | apply Cx.genCall | apply Cx.genCode | apply Cx.genList); (focus ((repeat (with_reducible (first | exact (H8).toS | exact At.here | apply At.there | apply CxS.drewN | apply CxS.drew | apply CxS.alloc | apply CxS.set | apply CxS.setRow))))); clear H8; intro w10 H9)
  have H9 := H9.find (a := .own dkR (.pointer (some ⟨b, 0, none⟩)) d4) (by repeat (with_reducible (first | exact At.here | apply At.there)))
  refine (dk_crash (d := d4) _ 2 2 [false, true] (by rw [HD4.out]; decide) H9 (by repeat (with_reducible (first | exact At.here | apply At.there))) (fun W HW => C_block Kd.bool rfl (HW.blk (by repeat (with_reducible (first | exact At.here | apply At.there)))) [false, true] (by decide) (fun j z hj => ?_))).mono ?_
  · rcases j with _ | _ | j
    · simp at hj; subst hj; exact ⟨_, rfl, rfl⟩
    · simp at hj; subst hj; exact ⟨_, rfl, rfl⟩
    · simp at hj
  rintro e w11 ⟨rfl, H10⟩
  have H10 := H10.head (a := .own dkR (.pointer (some ⟨b, 0, none⟩)) (d4.crash [false, true])) (by repeat (with_reducible (first | exact At.here | apply At.there)))
  clear H9
  obtain ⟨d5, hd5⟩ : ∃ d, d = d4.crash [false, true] := ⟨_, rfl⟩
  rw [← hd5] at H10
  rw [HD4.out] at hd5
  have HD5 := Aside0.mk hd5
  clear hd5
  go_wp2_with fail
  refine (dk_read (d := d5) 0 (by decide) H10 (by repeat (with_reducible (first | exact At.here | apply At.there))) (by rw [HD5.out]; decide)).mono ?_
  rintro e w12 ⟨rfl, H11⟩
  clear H10
  rw [show errW (d5.read 0).2 = .nilIface from by rw [HD5.out]; rfl, show (d5.read 0).1 = fullS 1 from by rw [HD5.out]; rfl]
  have F : True := trivial
  go_wp2_with ((((with_reducible refine gate_store (t := 34) (x := .tmp 3) (y := .tmp 48) rfl ?_); (apply Cx.atList); (focus ((repeat (with_reducible (first | exact (H11).toS | exact At.here | apply At.there | apply CxS.drewN | apply CxS.drew | apply CxS.alloc | apply CxS.set | apply CxS.setRow))))); intro HT_; refine wpList_store_row rfl 34 (.tmp 3) (.tmp 48) rfl (w12.heap.size) (u8A (fullS 1)) rfl rfl _ _ (HT_.blk (by repeat (with_reducible (first | exact At.here | apply At.there)))) (dk_isz (fullS_len 1)) (by rw [u8A_size, u8A_size, sz0_len, fullS_len]) (u8A_one _) ?_; clear HT_); clear F; (apply Cx.genList); (focus ((repeat (with_reducible (first | exact (H11).toS | exact At.here | apply At.there | apply CxS.drewN | apply CxS.drew | apply CxS.alloc | apply CxS.set | apply CxS.setRow))))); clear H11; intro w13 H12; have F := (H12).facts; simp only [factsOf, Asr.facts, blkFacts, cellsAre, List.toList_toArray, forall_const, Nat.zero_add, Nat.reduceAdd, and_true, true_and] at F))
  refine (dk_read (d := d5) 1 (by decide) H12 (by repeat (with_reducible (first | exact At.here | apply At.there))) (by rw [HD5.out]; decide)).mono ?_
  rintro e w14 ⟨rfl, H13⟩
  clear H12 F
  rw [show errW (d5.read 1).2 = .nilIface from by rw [HD5.out]; rfl, show (d5.read 1).1 = fullS 3 from by rw [HD5.out]; rfl]
  have F : True := trivial
  go_wp2_with ((((with_reducible refine gate_store (t := 34) (x := .tmp 4) (y := .tmp 53) rfl ?_); (apply Cx.atList); (focus ((repeat (with_reducible (first | exact (H13).toS | exact At.here | apply At.there | apply CxS.drewN | apply CxS.drew | apply CxS.alloc | apply CxS.set | apply CxS.setRow))))); intro HT_; refine wpList_store_row rfl 34 (.tmp 4) (.tmp 53) rfl (w14.heap.size) (u8A (fullS 3)) rfl rfl _ _ (HT_.blk (by repeat (with_reducible (first | exact At.here | apply At.there)))) (dk_isz (fullS_len 3)) (by rw [u8A_size, u8A_size, sz0_len, fullS_len]) (u8A_one _) ?_; clear HT_); clear F; (apply Cx.genList); (focus ((repeat (with_reducible (first | exact (H13).toS | exact At.here | apply At.there | apply CxS.drewN | apply CxS.drew | apply CxS.alloc | apply CxS.set | apply CxS.setRow))))); clear H13; intro w15 H14; have F := (H14).facts; simp only [factsOf, Asr.facts, blkFacts, cellsAre, List.toList_toArray, forall_const, Nat.zero_add, Nat.reduceAdd, and_true, true_and] at F))
  have hst : d5.steps = 4 := by rw [HD5.out]; decide +kernel
  have hu34 := Try.underlying34
  have hi1 : (Try.prog.info? 34).map (·.size) = some ((fullS 1).map (Value.int .u8)).length := by rw [List.length_map, fullS_len]; exact dk_info
  have hi3 : (Try.prog.info? 34).map (·.size) = some ((fullS 3).map (Value.int .u8)).length := by rw [List.length_map, fullS_len]; exact dk_info
  have heq1 : ∀ W, (Op.equalIn 10000 34 (.agg ((fullS 1).map (Value.int .u8)).toArray) (.agg (u8A (fullS 1)))).run Try.prog W = .ok true W := fun W => by have := dk_eql (fullS 1) (fullS 1) (fullS_len 1) (fullS_len 1) W; rwa [decide_eq_true rfl] at this
  have heq3 : ∀ W, (Op.equalIn 10000 34 (.agg ((fullS 3).map (Value.int .u8)).toArray) (.agg (u8A (fullS 3)))).run Try.prog W = .ok true W := fun W => by have := dk_eql (fullS 3) (fullS 3) (fullS_len 3) (fullS_len 3) W; rwa [decide_eq_true rfl] at this
  have hS : AlS w b d5 w12.heap.size w14.heap.size w15 := AlS.of (H14.find (a := .own dkR (.pointer (some ⟨b, 0, none⟩)) d5) (by repeat (with_reducible (first | exact At.here | apply At.there)))) (by repeat (with_reducible (first | exact At.here | apply At.there))) (by repeat (with_reducible (first | exact At.here | apply At.there)))
  clear H14 F
  refine wp_region_held_drew (S := AlS w b d5 w12.heap.size w14.heap.size) (by kernel_rfl) (AlS.drew hS) (fun hH_ => ?_)
  clear hS
  (refine wpAnyH_take (i := 0) (v := ?_) rfl (by kernel_rfl) (by kernel_rfl) (by kernel_rfl) (fun _ _ _ h => h) (Or.inl ⟨by rfl, ?_⟩) hH_ ?_; rotate_left; (focus (intro w_ hSw_; go_simp; try (with_reducible rfl))); simp only [List.getElem_toArray, List.getElem_cons_succ, List.getElem_cons_zero, Act.put, List.setIfInBounds_toArray, List.set_cons_zero, List.set_cons_succ])
  (refine wpAnyH_take (i := 1) (v := ?_) rfl (by kernel_rfl) (by kernel_rfl) (by kernel_rfl) (fun _ _ _ h => h) (Or.inl ⟨by rfl, ?_⟩) hH_ ?_; rotate_left; (focus (intro w_ hSw_; go_simp; try (with_reducible rfl))); simp only [List.getElem_toArray, List.getElem_cons_succ, List.getElem_cons_zero, Act.put, List.setIfInBounds_toArray, List.set_cons_zero, List.set_cons_succ])
  (refine wpAnyH_take (i := 2) (v := ?_) rfl (by kernel_rfl) (by kernel_rfl) (by kernel_rfl) (fun _ _ _ h => h) (Or.inl ⟨by rfl, ?_⟩) hH_ ?_; rotate_left; (focus (intro w_ hSw_; go_simp; try (with_reducible rfl))); simp only [List.getElem_toArray, List.getElem_cons_succ, List.getElem_cons_zero, Act.put, List.setIfInBounds_toArray, List.set_cons_zero, List.set_cons_succ])
  (refine wpAnyH_take (i := 3) (v := ?_) rfl (by kernel_rfl) (by kernel_rfl) (by kernel_rfl) (fun _ _ _ h => h) (Or.inl ⟨by rfl, ?_⟩) hH_ ?_; rotate_left; (focus (intro w_ hSw_; go_simp; try (with_reducible rfl))); simp only [List.getElem_toArray, List.getElem_cons_succ, List.getElem_cons_zero, Act.put, List.setIfInBounds_toArray, List.set_cons_zero, List.set_cons_succ])
  (refine wpAnyH_take (i := 4) (v := ?_) rfl (by kernel_rfl) (by kernel_rfl) (by kernel_rfl) (fun _ _ _ h => h) (Or.inl ⟨by rfl, ?_⟩) hH_ ?_; rotate_left; (focus (intro w_ hSw_; go_simp; try (with_reducible rfl))); simp only [List.getElem_toArray, List.getElem_cons_succ, List.getElem_cons_zero, Act.put, List.setIfInBounds_toArray, List.set_cons_zero, List.set_cons_succ])
  (refine wpAnyH_take (i := 5) (v := ?_) rfl (by kernel_rfl) (by kernel_rfl) (by kernel_rfl) (fun _ _ _ h => h) (Or.inl ⟨by rfl, ?_⟩) hH_ ?_; rotate_left; (focus (intro w_ hSw_; go_simp; try (with_reducible rfl))); simp only [List.getElem_toArray, List.getElem_cons_succ, List.getElem_cons_zero, Act.put, List.setIfInBounds_toArray, List.set_cons_zero, List.set_cons_succ])
  (refine wpAnyH_take (i := 6) (v := ?_) rfl (by kernel_rfl) (by kernel_rfl) (by kernel_rfl) (fun _ _ _ h => h) (Or.inl ⟨by rfl, ?_⟩) hH_ ?_; rotate_left; (focus (intro w_ hSw_; go_simp; try (with_reducible rfl))); simp only [List.getElem_toArray, List.getElem_cons_succ, List.getElem_cons_zero, Act.put, List.setIfInBounds_toArray, List.set_cons_zero, List.set_cons_succ])
  (refine wpAnyH_take (i := 7) rfl (by kernel_rfl) (by kernel_rfl) (by kernel_rfl) (fun _ _ _ h => h) (yieldsIf_load_mid (by rfl) 34 (.tmp 3) rfl (w12.heap.size) (0) rfl ((fullS 1).map (Value.int .u8)) _ (fun _ h => h.1) Try.underlying34 rfl (hi1)) hH_ ?_; simp only [List.getElem_toArray, List.getElem_cons_succ, List.getElem_cons_zero, Act.put, List.setIfInBounds_toArray, List.set_cons_zero, List.set_cons_succ])
  (refine wpAnyH_ready (rs := [8]) (by kernel_rfl) (by simp) ?_; refine AllReadyH.cons rfl (fun K hK => ?_) AllReadyH.nil; go_simp; go_at_call 13; refine (dk_full 1 _).mono ?_; rintro e w' ⟨rfl, hb⟩; (try go_simp); refine hK.out _ _ (AlS.below hH_ hb) (fun hH2_ => ?_); clear hK K hH_; have hH_ := hH2_; clear hH2_; try simp only [List.getElem_toArray, List.getElem_cons_succ, List.getElem_cons_zero, Act.put, List.setIfInBounds_toArray, List.set_cons_zero, List.set_cons_succ])
  (refine wpAnyH_take (i := 9) (v := ?_) rfl (by kernel_rfl) (by kernel_rfl) (by kernel_rfl) (fun _ _ _ h => h) (Or.inl ⟨by rfl, ?_⟩) hH_ ?_; rotate_left; (focus (intro w_ hSw_; go_simp; try (with_reducible rfl))); simp only [List.getElem_toArray, List.getElem_cons_succ, List.getElem_cons_zero, Act.put, List.setIfInBounds_toArray, List.set_cons_zero, List.set_cons_succ])
  (refine wpAnyH_take (i := 10) (v := ?_) rfl (by kernel_rfl) (by kernel_rfl) (by kernel_rfl) (fun _ _ _ h => h) (Or.inl ⟨by rfl, ?_⟩) hH_ ?_; rotate_left; (focus (intro w_ hSw_; go_simp; try (with_reducible rfl))); simp only [List.getElem_toArray, List.getElem_cons_succ, List.getElem_cons_zero, Act.put, List.setIfInBounds_toArray, List.set_cons_zero, List.set_cons_succ])
  (refine wpAnyH_take (i := 11) (v := ?_) rfl (by kernel_rfl) (by kernel_rfl) (by kernel_rfl) (fun _ _ _ h => h) (Or.inl ⟨by rfl, ?_⟩) hH_ ?_; rotate_left; (focus (intro w_ hSw_; go_simp; try (with_reducible rfl))); simp only [List.getElem_toArray, List.getElem_cons_succ, List.getElem_cons_zero, Act.put, List.setIfInBounds_toArray, List.set_cons_zero, List.set_cons_succ])
  (refine wpAnyH_take (i := 12) rfl (by kernel_rfl) (by kernel_rfl) (by kernel_rfl) (fun _ _ _ h => h) (yieldsIf_load_mid (by rfl) 34 (.tmp 4) rfl (w14.heap.size) (0) rfl ((fullS 3).map (Value.int .u8)) _ (fun _ h => h.2.1) Try.underlying34 rfl (hi3)) hH_ ?_; simp only [List.getElem_toArray, List.getElem_cons_succ, List.getElem_cons_zero, Act.put, List.setIfInBounds_toArray, List.set_cons_zero, List.set_cons_succ])
  (refine wpAnyH_ready (rs := [13]) (by kernel_rfl) (by simp) ?_; refine AllReadyH.cons rfl (fun K hK => ?_) AllReadyH.nil; go_simp; go_at_call 13; refine (dk_full 3 _).mono ?_; rintro e w' ⟨rfl, hb⟩; (try go_simp); refine hK.out _ _ (AlS.below hH_ hb) (fun hH2_ => ?_); clear hK K hH_; have hH_ := hH2_; clear hH2_; try simp only [List.getElem_toArray, List.getElem_cons_succ, List.getElem_cons_zero, Act.put, List.setIfInBounds_toArray, List.set_cons_zero, List.set_cons_succ])
  (refine wpAnyH_take (i := 14) (v := ?_) rfl (by kernel_rfl) (by kernel_rfl) (by kernel_rfl) (fun _ _ _ h => h) (Or.inl ⟨by rfl, ?_⟩) hH_ ?_; rotate_left; (focus (intro w_ hSw_; go_simp; try (with_reducible rfl))); simp only [List.getElem_toArray, List.getElem_cons_succ, List.getElem_cons_zero, Act.put, List.setIfInBounds_toArray, List.set_cons_zero, List.set_cons_succ])
  (refine wpAnyH_take (i := 15) (v := ?_) rfl (by kernel_rfl) (by kernel_rfl) (by kernel_rfl) (fun _ _ _ h => h) (Or.inl ⟨by rfl, ?_⟩) hH_ ?_; rotate_left; (focus (intro w_ hSw_; go_simp; try (with_reducible rfl))); simp only [List.getElem_toArray, List.getElem_cons_succ, List.getElem_cons_zero, Act.put, List.setIfInBounds_toArray, List.set_cons_zero, List.set_cons_succ])
  (refine wpAnyH_take (i := 16) (v := ?_) rfl (by kernel_rfl) (by kernel_rfl) (by kernel_rfl) (fun _ _ _ h => h) (Or.inl ⟨by rfl, ?_⟩) hH_ ?_; rotate_left; (focus (intro w_ hSw_; go_simp; try (with_reducible rfl))); simp only [List.getElem_toArray, List.getElem_cons_succ, List.getElem_cons_zero, Act.put, List.setIfInBounds_toArray, List.set_cons_zero, List.set_cons_succ])
  (refine wpAnyH_take (i := 17) (v := ?_) rfl (by kernel_rfl) (by kernel_rfl) (by kernel_rfl) (fun _ _ _ h => h) (Or.inl ⟨by rfl, ?_⟩) hH_ ?_; rotate_left; (focus (intro w_ hSw_; go_simp; try (with_reducible rfl))); simp only [List.getElem_toArray, List.getElem_cons_succ, List.getElem_cons_zero, Act.put, List.setIfInBounds_toArray, List.set_cons_zero, List.set_cons_succ])
  (refine wpAnyH_ready (rs := [18]) (by kernel_rfl) (by simp) ?_; refine AllReadyH.cons rfl (fun K hK => ?_) AllReadyH.nil; go_simp; go_at_call 21; refine (dk_steps (AlS.cx hH_) At.here).mono ?_; rintro e w' ⟨rfl, rfl⟩; (try go_simp); refine hK.out _ _ (hH_) (fun hH2_ => ?_); clear hK K hH_; have hH_ := hH2_; clear hH2_; try simp only [List.getElem_toArray, List.getElem_cons_succ, List.getElem_cons_zero, Act.put, List.setIfInBounds_toArray, List.set_cons_zero, List.set_cons_succ])
  (refine wpAnyH_take (i := 19) (v := ?_) rfl (by kernel_rfl) (by kernel_rfl) (by kernel_rfl) (fun _ _ _ h => h) (Or.inl ⟨by rfl, ?_⟩) hH_ ?_; rotate_left; (focus (intro w_ hSw_; go_simp; try (with_reducible rfl))); simp only [List.getElem_toArray, List.getElem_cons_succ, List.getElem_cons_zero, Act.put, List.setIfInBounds_toArray, List.set_cons_zero, List.set_cons_succ])
  (refine wpAnyH_take (i := 20) (v := ?_) rfl (by kernel_rfl) (by kernel_rfl) (by kernel_rfl) (fun _ _ _ h => h) (Or.inl ⟨by rfl, ?_⟩) hH_ ?_; rotate_left; (focus (intro w_ hSw_; go_simp; try (with_reducible rfl))); simp only [List.getElem_toArray, List.getElem_cons_succ, List.getElem_cons_zero, Act.put, List.setIfInBounds_toArray, List.set_cons_zero, List.set_cons_succ])
  (refine wpAnyH_take (i := 21) (v := ?_) rfl (by kernel_rfl) (by kernel_rfl) (by kernel_rfl) (fun _ _ _ h => h) (Or.inl ⟨by rfl, ?_⟩) hH_ ?_; rotate_left; (focus (intro w_ hSw_; go_simp; try (with_reducible rfl))); simp only [List.getElem_toArray, List.getElem_cons_succ, List.getElem_cons_zero, Act.put, List.setIfInBounds_toArray, List.set_cons_zero, List.set_cons_succ])
  refine wpAnyH_done (by kernel_rfl) ?_ _
  go_wp2
  go_ret
  exact ⟨by first | rfl | trivial, (AlS.cx hH_).bel⟩

end Go.Proofs.Ytjoledofiindcaa.Hp
