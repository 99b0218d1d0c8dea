/- Contracts of functions of the given program, and what they lean on: written by this session's own program, out of hand texts laid into the kit's printer. -/
import Derived.LoopIn
import Derived.LoopNIn
import Derived.TacticsInMore
import Derived.OwnWalkIn
import Derived.Shelf.RegionOpen
import Derived.Shelf.Abstract
import Derived.RangeFuncLeaves
import Derived.RangeFuncCalls
import Derived.RangeFuncBound
import Derived.RangeFuncNested
import Derived.Test.YtjoledofiindcaaHp0
import Derived.Deep.MidRow
import Derived.Deep.RegionHeld3
import Derived.Shelf.SlMaps.Clone
import Derived.Laws.MakeOwn
import Derived.Test.YtjoledofiindcaaHg1
namespace Go.Proofs.Ytjoledofiindcaa.Hp
open Go.RowKit Go.Proofs.YtjoledofiindcaaW.PrintWords Go.Proofs.YtjoledofiindcaaW.PrintLast Go.Proofs.YtjoledofiindcaaW.PrintMore
attribute [local go_sem] max2_int min2_int max_two min_two max_three min_three max_four min_four   -- for this text's walks alone
set_option linter.unusedVariables false
set_option linter.unusedSimpArgs false

-- AUX DKR
open Go.Shelf
attribute [local go_sem] Oper.semAt_some
/-- The write that waits for a sector, the last one. -/
def lastW (ws : List (Int × List Int)) (i : Int) : Option (List Int) := ((ws.reverse.find? fun x => x.1 == i)).map (·.2)
def Dk.read (d : Dk) (i : Int) : List Int × Option Int := if d.gone = true then (sz0, some 3) else if d.has i = false then (sz0, some 1) else ((lastW d.waiting i).getD (d.sure i), none)
set_option maxRecDepth 100000 in
theorem results_c34_28 {fn : Func} {p q : Tmp} (h : fn.results = #[.cell p 34, .cell q 28]) (tmps : Array Value) (w : World) (g g2 : Nat) (cs : Array Value) (x : Value)
    (hp : tmps.getD p undef = .pointer (some ⟨g, 0, none⟩)) (hg : w.heap[g]? = some (.cells cs 34 (0, 0))) (hi : (Try.prog.info? 34).map (·.size) = some cs.size)
    (hq : tmps.getD q undef = .pointer (some ⟨g2, 0, none⟩)) (hc : w.cell? ⟨g2, 0, none⟩ = some x) :
    (results fn tmps).run Try.prog w = .ok (.tuple #[.agg cs, x]) w := by
  have h1 : tmps[p]?.getD undef = .pointer (some ⟨g, 0, none⟩) := by simpa using hp
  have h2 : tmps[q]?.getD undef = .pointer (some ⟨g2, 0, none⟩) := by simpa using hq
  have h28 := run_isAgg_plain (P := Try.prog) Try.underlying28 rfl w
  have hl := run_loadVar_row (P := Try.prog) w g 34 34 cs (0, 0) _ hg Try.underlying34 rfl hi
  have hl2 : (loadVar 28 ⟨g2, 0, none⟩).run Try.prog w = .ok x w := by simp [loadVar, h28, hc]
  simp [results, h, h1, h2, asAddr, hl, hl2]
set_option maxRecDepth 100000 in
set_option maxHeartbeats 4000000 in
theorem dk_read_bad {B : Nat} {w0 w : World} {m r : List Asr} {v : Value} {d : Dk} (i : Int) (H : Cx B w0 w m) (k : At m (.own dkR v d) r) (hbad : d.gone = true ∨ d.has i = false) :
    Calls Try.prog 16 #[v, .int .i64 i] w fun e w1 => e = .returned (.tuple #[.agg (u8A (d.read i).1), errW (d.read i).2]) ∧ Below w.heap.size w w1 := by
  obtain ⟨b, A, W, rfl, HWF, H0⟩ := H.openDk k
  have hz := dk_zero
  have hzb := dk_zerob
  have h28 := Try.underlying28
  have h56 := Try.underlying56
  have Hc := Cx.start w
  have F : True := trivial
  have hE : ∀ e : Option Int, errW e = (match e with | none => .nilIface | some c => .iface 56 (.int .i64 c)) := fun e => by cases e <;> rfl
  cases hg : d.gone
  · have hhas : d.has i = false := hbad.resolve_left (by rw [hg]; exact fun h => by cases h)
    have hrd : d.read i = (sz0, some 1) := by simp [Dk.read, hg, hhas]
    have HD := Aside0.mk hhas
    have HG := Aside0.mk hg
    rw [hrd]
    clear hhas hbad hrd hg
    go_enter Try.func16, Try.ntmps16
    go_wp2_with fail
    (apply Cx.atCall; (focus ((repeat (with_reducible (first | exact (Hc).toS | exact At.here | apply At.there | apply CxS.drewN | apply CxS.drew | apply CxS.alloc | apply CxS.set | apply CxS.setRow))))); intro HT)
    refine (dk_down (H.below HT.bel) k).mono ?_
    rintro e w1 ⟨rfl, rfl⟩
    rw [HG.out]
    clear HT
    go_wp2_with fail
    (apply Cx.atCall; (focus ((repeat (with_reducible (first | exact (Hc).toS | exact At.here | apply At.there | apply CxS.drewN | apply CxS.drew | apply CxS.alloc | apply CxS.set | apply CxS.setRow))))); intro HT)
    have HO := (H0.below HT.bel)
    refine (dk_has i HO (by repeat (with_reducible (first | exact At.here | apply At.there)))).mono ?_
    rintro e w1 ⟨rfl, rfl⟩
    rw [show (decide (0 ≤ i ∧ i < d.size)) = false from HD.out]
    clear HT HO
    go_wp2_with ((((with_reducible refine gate_store (t := 34) (x := .tmp 4) (y := .tmp 18) rfl ?_); (apply Cx.atList); (focus ((repeat (with_reducible (first | exact (Hc).toS | exact At.here | apply At.there | apply CxS.drewN | apply CxS.drew | apply CxS.alloc | apply CxS.set | apply CxS.setRow))))); intro HT_; refine wpList_store_row rfl 34 (.tmp 4) (.tmp 18) rfl (w.heap.size + 1) (u8A sz0) rfl rfl _ _ (HT_.blk (by repeat (with_reducible (first | exact At.here | apply At.there)))) (dk_isz sz0_len) (rfl) (u8A_one _) ?_; clear HT_); clear F; (apply Cx.genList); (focus ((repeat (with_reducible (first | exact (Hc).toS | exact At.here | apply At.there | apply CxS.drewN | apply CxS.drew | apply CxS.alloc | apply CxS.set | apply CxS.setRow))))); clear Hc; intro w4 Hc4; have F := (Hc4).facts; simp only [factsOf, Asr.facts, blkFacts, cellsAre, List.toList_toArray, forall_const, Nat.zero_add, Nat.reduceAdd, and_true, true_and] at F))
    ((try simp only [Exit.inBlock, Exit.then]); (apply Cx.atPost); (focus ((repeat (with_reducible (first | exact (Hc4).toS | exact At.here | apply At.there | apply CxS.drewN | apply CxS.drew | apply CxS.alloc | apply CxS.set | apply CxS.setRow))))); intro HT)
    try simp only [List.setIfInBounds_toArray, List.set_cons_zero, List.set_cons_succ] at HT
    exact bodyPost_ret (results_c34_28 rfl _ _ (w.heap.size + 1) (w.heap.size + 1 + 1) (u8A sz0) _ rfl (HT.blk (by repeat (with_reducible (first | exact At.here | apply At.there)))) (dk_isz sz0_len) rfl ((cell_of (HT.blk (b := w.heap.size + 1 + 1) (o := .cells #[.iface 56 (.int .i64 1)] 28 (0, 0)) (by repeat (with_reducible (first | exact At.here | apply At.there)))) 0).trans rfl)) rfl ⟨by first | rfl | trivial, HT.bel⟩
  · have hrd : d.read i = (sz0, some 3) := by simp [Dk.read, hg]
    have HG := Aside0.mk hg
    rw [hrd]
    clear hbad hrd hg
    go_enter Try.func16, Try.ntmps16
    go_wp2_with fail
    (apply Cx.atCall; (focus ((repeat (with_reducible (first | exact (Hc).toS | exact At.here | apply At.there | apply CxS.drewN | apply CxS.drew | apply CxS.alloc | apply CxS.set | apply CxS.setRow))))); intro HT)
    refine (dk_down (H.below HT.bel) k).mono ?_
    rintro e w1 ⟨rfl, rfl⟩
    rw [HG.out]
    clear HT
    go_wp2_with ((((with_reducible refine gate_store (t := 34) (x := .tmp 4) (y := .tmp 11) rfl ?_); (apply Cx.atList); (focus ((repeat (with_reducible (first | exact (Hc).toS | exact At.here | apply At.there | apply CxS.drewN | apply CxS.drew | apply CxS.alloc | apply CxS.set | apply CxS.setRow))))); intro HT_; refine wpList_store_row rfl 34 (.tmp 4) (.tmp 11) rfl (w.heap.size + 1) (u8A sz0) rfl rfl _ _ (HT_.blk (by repeat (with_reducible (first | exact At.here | apply At.there)))) (dk_isz sz0_len) (rfl) (u8A_one _) ?_; clear HT_); clear F; (apply Cx.genList); (focus ((repeat (with_reducible (first | exact (Hc).toS | exact At.here | apply At.there | apply CxS.drewN | apply CxS.drew | apply CxS.alloc | apply CxS.set | apply CxS.setRow))))); clear Hc; intro w4 Hc4; have F := (Hc4).facts; simp only [factsOf, Asr.facts, blkFacts, cellsAre, List.toList_toArray, forall_const, Nat.zero_add, Nat.reduceAdd, and_true, true_and] at F))
    ((try simp only [Exit.inBlock, Exit.then]); (apply Cx.atPost); (focus ((repeat (with_reducible (first | exact (Hc4).toS | exact At.here | apply At.there | apply CxS.drewN | apply CxS.drew | apply CxS.alloc | apply CxS.set | apply CxS.setRow))))); intro HT)
    try simp only [List.setIfInBounds_toArray, List.set_cons_zero, List.set_cons_succ] at HT
    exact bodyPost_ret (results_c34_28 rfl _ _ (w.heap.size + 1) (w.heap.size + 1 + 1) (u8A sz0) _ rfl (HT.blk (by repeat (with_reducible (first | exact At.here | apply At.there)))) (dk_isz sz0_len) rfl ((cell_of (HT.blk (b := w.heap.size + 1 + 1) (o := .cells #[.iface 56 (.int .i64 3)] 28 (0, 0)) (by repeat (with_reducible (first | exact At.here | apply At.there)))) 0).trans rfl)) rfl ⟨by first | rfl | trivial, HT.bel⟩
theorem came_snd (ws : List (Int × List Int)) (k : Nat) : (came ws k).map (·.2) = (ws.drop k).reverse := by
  unfold came
  rw [List.map_map, List.map_reverse]
  congr 1
  apply List.ext_getElem
  · simp
  · intro q h1 h2
    simp only [List.length_drop] at h2
    simp [List.getD_eq_getElem?_getD, List.getElem?_eq_getElem (show k + q < ws.length by omega)]
theorem lastW_came {ws : List (Int × List Int)} {i : Int} {k : Nat} {ini : List (Nat × (Int × List Int))} {last : Nat × (Int × List Int)} (h : came ws k = ini ++ [last]) (e2 : last.2.1 = i) (e3 : ∀ p ∈ ini, p.2.1 ≠ i) : lastW ws i = some last.2.2 ∧ last.2 ∈ ws := by
  have h1 := came_snd ws k
  rw [h, List.map_append, List.map_singleton] at h1
  have h2 : ws.reverse = (ini.map (·.2) ++ [last.2]) ++ (ws.take k).reverse := by rw [h1, ← List.reverse_append, List.take_append_drop]
  have hn : (ini.map (·.2)).find? (fun x => x.1 == i) = none := by
    rw [List.find?_eq_none]
    intro x hx
    obtain ⟨p, hp, rfl⟩ := List.mem_map.1 hx
    simpa using e3 p hp
  refine ⟨?_, ?_⟩
  · unfold lastW
    rw [h2, List.find?_append, List.find?_append, hn, List.find?_singleton]
    simp [e2]
  · have : last.2 ∈ (ws.drop k).reverse := by rw [← h1]; simp
    exact List.mem_of_mem_drop (List.mem_reverse.1 this)
theorem lastW_none {ws : List (Int × List Int)} {i : Int} (h : ∀ p ∈ came ws 0, p.2.1 ≠ i) : lastW ws i = none := by
  have h1 := came_snd ws 0
  rw [List.drop_zero] at h1
  unfold lastW
  rw [← h1, Option.map_eq_none_iff, List.find?_eq_none]
  intro x hx
  obtain ⟨p, hp, rfl⟩ := List.mem_map.1 hx
  simpa using h p hp
/-- What is known between two rounds of Read's loop; what is known where a round returns. -/
def RdI (w : World) (n : Nat) (i : Int) (pre : List (Nat × (Int × List Int))) (W : World) : Prop :=
  (W.heap[w.heap.size + 1 + 1]? = some (.cells #[.nilIface] 28 (0, 0)) ∧ W.heap[w.heap.size + 1]? = some (.cells (u8A sz0) 34 (0, 0)) ∧ W.heap[w.heap.size]? = some (.cells #[.int .i64 i] 3 (0, 0)) ∧ (∀ p ∈ pre, p.2.1 ≠ i) ∧ n ≤ W.heap.size) ∧ Below w.heap.size w W
def RdX (w : World) (i : Int) (c : Code) (pre : List (Nat × (Int × List Int))) (W : World) : Prop :=
  (c = .ret ∧ W.heap[w.heap.size + 1 + 1]? = some (.cells #[.nilIface] 28 (0, 0)) ∧ ∃ ini last, (pre = ini ++ [last] ∧ last.2.1 = i ∧ ∀ p ∈ ini, p.2.1 ≠ i) ∧ W.heap[w.heap.size + 1]? = some (.cells (u8A (secN last.2.2)) 34 (0, 0))) ∧ Below w.heap.size w W
theorem RdI.own (w : World) (n : Nat) (i : Int) (B : Nat) (hB : w.heap.size ≤ B) : OwnFrom B (RdI w n i) :=
  OwnFrom.and (Own.from (fun s A B row hs hg hr => ⟨blk_own _ _ (fun _ : Unit => #[Value.nilIface]) () A B row hs.1 hg hr, blk_own _ _ (fun _ : Unit => u8A sz0) () A B row hs.2.1 hg hr, blk_own _ _ (fun _ : Unit => #[Value.int .i64 i]) () A B row hs.2.2.1 hg hr, hs.2.2.2.1, Nat.le_trans hs.2.2.2.2 hg.size⟩) _) (ownFrom_below (Nat.le_refl _) hB)
theorem RdX.own (w : World) (i : Int) (c : Code) (B : Nat) (hB : w.heap.size ≤ B) : OwnFrom B (RdX w i c) :=
  OwnFrom.and (Own.from (fun s A B row hs hg hr => by obtain ⟨e, h1, ini, last, h2, h3⟩ := hs; exact ⟨e, blk_own _ _ (fun _ : Unit => #[Value.nilIface]) () A B row h1 hg hr, ini, last, h2, blk_own _ _ (fun _ : Unit => u8A (secN last.2.2)) () A B row h3 hg hr⟩) _) (ownFrom_below (Nat.le_refl _) hB)
set_option maxRecDepth 100000 in
set_option maxHeartbeats 8000000 in
theorem dk_read_ok {B : Nat} {w0 w : World} {m r : List Asr} {v : Value} {d : Dk} (i : Int) (hi : (Lit.int .i64 i).wf = true) (H : Cx B w0 w m) (k : At m (.own dkR v d) r) (hl : d.waiting.length < 100000) (hg : d.gone = false) (hh : d.has i = true) :
    Calls Try.prog 16 #[v, .int .i64 i] w fun e w1 => e = .returned (.tuple #[.agg (u8A (d.read i).1), .nilIface]) ∧ Below w.heap.size w w1 := by
  obtain ⟨b, A, W, rfl, HWF, H0⟩ := H.openDk k
  obtain ⟨bm, rfl⟩ := H0.mapped (x := (d.cnt, d.sure)) (by repeat (with_reducible (first | exact At.here | apply At.there)))
  obtain ⟨A2, c2, rfl, hle, hrow, _⟩ := H0.bigLen (xs := d.waiting) (by repeat (with_reducible (first | exact At.here | apply At.there)))
  obtain ⟨N, hN⟩ : ∃ N, N = d.waiting.length := ⟨_, rfl⟩
  rw [← hN] at H0
  have hNb : N < 100000 := by omega
  have HN := Aside0.mk hN
  have hz := dk_zero
  have hz2 := dk_zero2
  have h28 := Try.underlying28
  have HD := Aside0.mk hh
  have HG := Aside0.mk hg
  have HI := Aside0.mk hi
  have Hc := Cx.start w
  have HRD : Aside0 (d.read i = ((lastW d.waiting i).getD (d.sure i), none)) := ⟨by simp [Dk.read, hg, hh]⟩
  rw [HRD.out]
  obtain ⟨res, hres⟩ : ∃ res, res = (lastW d.waiting i).getD (d.sure i) := ⟨_, rfl⟩
  rw [← hres]
  have HRES := Aside0.mk hres
  simp only
  have HROW := Aside0.mk hrow
  clear hl hg hh hi hN hle hrow hres HRD
  refine (callsIn_wide (n := 8)).1 ?_
  refine callsIn_of_wp_marks Try.func16 rfl trivial ?_ rfl
  refine wpIn_wide.2 ?_
  simp only [Try.ntmps16, List.size_toArray, List.length_cons, List.length_nil, Nat.reduceAdd, Nat.reduceSub, Array.replicate_succ, Array.replicate_zero, List.push_toArray, List.append_toArray, List.nil_append, List.cons_append]
  go_wp2_with fail
  ((first | apply Cx.genCall | apply Cx.genCode | apply Cx.genList); (focus ((repeat (with_reducible (first | exact (Hc).toS | exact At.here | apply At.there | apply CxS.drewN | apply CxS.drew | apply CxS.alloc | apply CxS.set | apply CxS.setRow))))); clear Hc; intro T HT)
  have HO := H0.below HT.bel
  have F := (HO).facts; simp only [factsOf, Asr.facts, blkFacts, cellsAre, List.toList_toArray, forall_const, Nat.zero_add, Nat.reduceAdd, and_true, true_and] at F
  have F2 := (HT).facts; simp only [factsOf, Asr.facts, blkFacts, cellsAre, List.toList_toArray, forall_const, Nat.zero_add, Nat.reduceAdd, and_true, true_and] at F2
  have hbs := HT.bel.size
  refine (dk_down (H.below HT.bel) k).mono ?_
  rintro e w1 ⟨rfl, rfl⟩
  rw [HG.out]
  go_wp2_with fail
  refine (dk_has i HO (by repeat (with_reducible (first | exact At.here | apply At.there)))).mono ?_
  rintro e w1 ⟨rfl, rfl⟩
  rw [show (decide (0 ≤ i ∧ i < d.size)) = true from HD.out]
  go_wp2_with fail
  refine ((callsIn_wide (n := 7)).1 (dk_back_in Fence.wide 7 trivial rfl A2 N c2 _)).mono ?_
  rintro e w1 ⟨rfl, rfl⟩
  go_wp2_with fail
  have hcb : ∀ j x, d.waiting[j]? = some x → ∃ g, A2 = some ⟨g, 0, none⟩ ∧ g < (w1.alloc (.cells #[.slice A2 N c2] 65)).heap.size ∧ (wrC x).length = 129 ∧ (w1.alloc (.cells #[.slice A2 N c2] 65)).rangeAt g (j * 129) (wrC x) := fun j x hx => by
    obtain ⟨g, e, h1, _, h3, h4⟩ := HO.bigAt (xs := d.waiting) (n := N) (c := c2) (A := A2) (by repeat (with_reducible (first | exact At.here | apply At.there))) j x hx
    exact ⟨g, e, by simp; omega, h3, World.rangeAt_alloc (fun q u hu => h4 q u hu) _⟩
  have hB0 : Below w.heap.size w (w1.alloc (.cells #[.slice A2 N c2] 65)) := HT.bel.alloc hbs _
  have hI0 := ((HT.toS.alloc (.cells #[.slice A2 N c2] 65)).cx)
  have q1 := hI0.blk (b := w.heap.size + 1 + 1) (o := .cells #[.nilIface] 28 (0, 0)) (by repeat (with_reducible (first | exact At.here | apply At.there)))
  have q2 := hI0.blk (b := w.heap.size + 1) (o := .cells (u8A sz0) 34 (0, 0)) (by repeat (with_reducible (first | exact At.here | apply At.there)))
  have q3 := hI0.blk (b := w.heap.size) (o := .cells #[.int .i64 i] 3 (0, 0)) (by repeat (with_reducible (first | exact At.here | apply At.there)))
  have hrng : w1.heap.size < (w1.alloc (.cells #[.slice A2 N c2] 65)).heap.size := by simp
  have hbox : (w1.alloc (.cells #[.slice A2 N c2] 65)).cell? ⟨w1.heap.size, 0, none⟩ = some (.slice A2 N c2) := (cell_of (heap_alloc_new w1 _) 0).trans rfl
  have hst := dk_back_stops Fence.wide 7 trivial rfl (by decide) w1.heap.size N c2 A2 d.waiting HN.out hNb _ hrng hbox hcb
  have hsz2 : (w1.alloc (.cells #[.slice A2 N c2] 65)).heap.size = w1.heap.size + 1 := by simp
  have hws : w.heap.size + 1 + 1 < w1.heap.size := F2.1.1
  clear hcb hrng hbox F F2 hI0
  have HSZ := Aside0.mk hsz2
  generalize (w1.alloc (.cells #[.slice A2 N c2] 65)) = T at *
  have hle0 : w.heap.size ≤ T.heap.size := by omega
  clear hsz2
  refine (wpIn_wide (n := 8)).1 ?_
  refine wpIn_rangeFunc_ownH (F := Fence.wide) rfl (by decide) (gf := 41) (lb := #[.pointer (some ⟨w1.heap.size, 0, none⟩)]) rfl trivial (enters_of Try.func41 (by kernel_rfl) rfl)
    hst belowK_t (belowK_b (Nat.le_refl _)) (Below.refl _ _) (fun _ => rfl)
    (RdI w T.heap.size i) (RdX w i) (RdI.own w _ i _ hle0) (fun c => RdX.own w i c _ hle0)
    ⟨⟨q1, q2, q3, (fun _ h => by cases h), Nat.le_refl _⟩, hB0⟩
    (fun x a' W => ∃ Bx, w.heap.size + 1 + 1 < Bx ∧ W.heap[Bx]? = some (.cells (wrN x.2).toArray 69 (0, 0)) ∧ a' = { tmps := #[.pointer (some ⟨b, 0, none⟩), .int .i64 i, undef, .pointer (some ⟨w.heap.size, 0, none⟩), .pointer (some ⟨w.heap.size + 1, 0, none⟩), .pointer (some ⟨w.heap.size + 1 + 1, 0, none⟩), undef, .pointer (some ⟨Bx, 0, none⟩), .bool false, .pointer (some ⟨b, 0, none⟩), .bool false, undef, undef, .bool false, .pointer (some ⟨b, 0, none⟩), .int .i64 i, .bool true, .bool false, undef, undef, .pointer (some ⟨b, 0, none⟩), .pointer (some ⟨b, 0, none⟩), .pointer (some ⟨b, 6, none⟩), .slice A2 N c2, .func (.func 41) #[] #[.pointer (some ⟨w1.heap.size, 0, none⟩)], .int .i64 (x.1 : Int), .agg (wrN x.2).toArray, undef, undef, undef, undef, undef, undef, undef, undef, undef, undef, undef, undef], defers := [] })
    (fun x a' _ X Y row hs hg hr => by obtain ⟨Bx, h1, h2, h3⟩ := hs; exact ⟨Bx, h1, blk_own _ _ (fun _ : Unit => (wrN x.2).toArray) () X Y row h2 hg (fun r e => (hr r e).2), h3⟩)
    ?assign ?body ?done ?stop
  case assign =>
    rintro l pre x W K ⟨⟨h1, h2, h3, h4, hT⟩, hB⟩ hK
    have hl := wrN_len x.2
    have hnew := heap_alloc_new W (.cells (wrC (0, sz0)).toArray 69 (0, 0))
    gi_wp2_with (refine wpListIn_store_row rfl 69 (.tmp 7) (.tmp 26) rfl W.heap.size (wrN x.2).toArray rfl rfl _ _ hnew (by rw [List.size_toArray, hl]; kernel_rfl) (by rw [List.size_toArray, List.size_toArray, hl, wrC_len _ sz0_len]) (wrC_oneA _) ?_)
    have hbw : Below W.heap.size W ((W.alloc (.cells (wrC (0, sz0)).toArray 69)).setRow W.heap.size (wrN x.2).toArray) := below_setRow ((Below.refl _ W).alloc (Nat.le_refl _) _) (Nat.le_refl _) _
    exact hK _ _ (((KeepsOthers.alloc _ _).trans (KeepsOthers.setRow_ hnew _)).from _) (hbw.mono hT) ⟨⟨(hbw.block _ (blk_size h1)).trans h1, (hbw.block _ (blk_size h2)).trans h2, (hbw.block _ (blk_size h3)).trans h3, h4, Nat.le_trans hT hbw.size⟩, hB.trans (hbw.mono hB.size)⟩ ⟨W.heap.size, by have := blk_size h1; omega, setRow_heap _ _ _ _ _ _ hnew, rfl⟩
  case body =>
    rintro l pre x a' W hl0 ⟨rr, hrr⟩ ⟨⟨h1, h2, h3, h4, hT⟩, hB⟩ ⟨Bx, hBx, hb, rfl⟩ hlt
    have c0 : W.cell? ⟨Bx, 0, none⟩ = some (.int .i64 x.2.1) := (cell_of hb 0).trans rfl
    have ci : W.cell? ⟨w.heap.size, 0, none⟩ = some (.int .i64 i) := (cell_of h3 0).trans rfl
    have hsl := secN_len x.2.2
    have hr5 : W.rangeAt Bx 1 ((secN x.2.2).map (Value.int .u8)) := fun q u hu => by
      rw [cell_of hb, Nat.add_comm]
      simpa [wrN, wrC] using hu
    by_cases he : x.2.1 = i
    · have hsr : (W.setRow (w.heap.size + 1) (u8A (secN x.2.2))).heap[w.heap.size + 1 + 1]? = some (.cells #[.nilIface] 28 (0, 0)) := (setRow_other W _ _ _ (by omega)).trans h1
      have c5 : (W.setRow (w.heap.size + 1) (u8A (secN x.2.2))).cell? ⟨w.heap.size + 1 + 1, 0, none⟩ = some .nilIface := (cell_of hsr 0).trans rfl
      have f5 : (W.setRow (w.heap.size + 1) (u8A (secN x.2.2))).frozen? ⟨w.heap.size + 1 + 1, 0, none⟩ = false := frozen_of hsr 0
      have hq2 := setRow_heap W (w.heap.size + 1) _ (u8A (secN x.2.2)) _ _ h2
      have HE := Aside0.mk he
      clear hsr
      subst he
      gi_wp2_with (first
        | (refine wpListIn_load_mid rfl 34 (.tmp 31) rfl Bx 1 rfl ((secN x.2.2).map (Value.int .u8)) _ hr5 Try.underlying34 rfl (by rw [List.length_map, hsl]; exact dk_info) ?_)
        | (refine wpListIn_store_row rfl 34 (.tmp 4) (.tmp 32) rfl (w.heap.size + 1) (u8A (secN x.2.2)) rfl rfl _ _ h2 (dk_isz hsl) (by rw [u8A_size, u8A_size, hsl, sz0_len]) (u8A_one _) ?_))
      exact ⟨((KeepsOthers.setRow_ h2 _).trans (KeepsOthers.setCell _ _ _)).from _, ⟨rfl, (setCell_here ((setRow_other W _ _ _ (by omega)).trans h1) 0 _).trans rfl, pre, x, ⟨rfl, rfl, h4⟩, (Below.heap_setCell _ ⟨w.heap.size + 1 + 1, 0, none⟩ _ _ (by show w.heap.size + 1 ≠ w.heap.size + 1 + 1; omega)).trans hq2⟩, (below_setRow hB (by omega) _).setCell (p := ⟨w.heap.size + 1 + 1, 0, none⟩) (by show w.heap.size ≤ w.heap.size + 1 + 1; omega) _⟩
    · gi_wp2
      exact ⟨KeepsFrom.refl _ _, Below.refl _ _, ⟨h1, h2, h3, fun p hp => (List.mem_append.1 hp).elim (h4 p) (fun e => by rw [List.mem_singleton] at e; subst e; exact he), hT⟩, hB⟩
  case done =>
    rintro D ys W hD rfl ⟨⟨h1, h2, h3, h4, hT⟩, hB⟩ hK
    have HOW := H0.below hB
    have hres2 : res = d.sure i := by rw [HRES.out, lastW_none h4]; rfl
    subst hres2
    have HDK := Aside0.mk hK
    have HH1 := Aside0.mk h1
    have hsl := H0.lookLen (x := (d.cnt, d.sure)) (by repeat (with_reducible (first | exact At.here | apply At.there))) i
    simp only at hsl
    have HSL := Aside0.mk hsl
    have hlk := ((HOW.toS.drew).cx).look (b := bm) (x := (d.cnt, d.sure)) (by repeat (with_reducible (first | exact At.here | apply At.there))) i HI.out
    simp only at hlk
    have ci : W.cell? ⟨w.heap.size, 0, none⟩ = some (.int .i64 i) := (cell_of h3 0).trans rfl
    have hsr : (W.drew.setRow (w.heap.size + 1) (u8A (d.sure i))).heap[w.heap.size + 1 + 1]? = some (.cells #[.nilIface] 28 (0, 0)) := (setRow_other W.drew _ _ _ (by omega)).trans h1
    have c5 : (W.drew.setRow (w.heap.size + 1) (u8A (d.sure i))).cell? ⟨w.heap.size + 1 + 1, 0, none⟩ = some .nilIface := (cell_of hsr 0).trans rfl
    have f5 : (W.drew.setRow (w.heap.size + 1) (u8A (d.sure i))).frozen? ⟨w.heap.size + 1 + 1, 0, none⟩ = false := frozen_of hsr 0
    have hq2 := setRow_heap W.drew (w.heap.size + 1) _ (u8A (d.sure i)) _ _ h2
    have F := (HOW).facts; simp only [factsOf, Asr.facts, blkFacts, cellsAre, List.toList_toArray, forall_const, Nat.zero_add, Nat.reduceAdd, and_true, true_and] at F
    clear hsl hK h1 hst
    go_wp2_with fail
    refine wp_region_still_tail 6 (by kernel_rfl) (by kernel_rfl) ?_; simp only [List.take_succ_cons, List.take_zero, List.drop_succ_cons, List.drop_zero]; (repeat (first | fail | still_step)); try refine wpStill_nil ?_
    change wpList _ _ _ _ _ W.drew
    refine wpList_store_row rfl 34 (.tmp 4) (.tmp 38) rfl (w.heap.size + 1) (u8A (d.sure i)) rfl rfl 34 (u8A sz0) h2 (dk_isz HSL.out) (by rw [u8A_size, u8A_size, HSL.out, sz0_len]) (u8A_one _) ?_
    go_wp2
    have hne1 : w.heap.size + 1 ≠ D := by have := HSZ.out; omega
    have hne2 : w.heap.size + 1 + 1 ≠ D := by have := HSZ.out; omega
    have hK2 := ((KeepsOthers.setRow_ (W := W.drew) h2 (u8A (d.sure i))).trans (KeepsOthers.setCell _ ⟨w.heap.size + 1 + 1, 0, none⟩ .nilIface)).same D _ HDK.out rfl
    have g1 : (((W.drew.setRow (w.heap.size + 1) (u8A (d.sure i))).setCell ⟨w.heap.size + 1 + 1, 0, none⟩ .nilIface).putObj D (.deferred none)).heap[w.heap.size + 1]? = some (.cells (u8A (d.sure i)) 34 (0, 0)) :=
      (World.putObj_heap_other hne1).trans ((Below.heap_setCell _ ⟨w.heap.size + 1 + 1, 0, none⟩ _ _ (by show w.heap.size + 1 ≠ w.heap.size + 1 + 1; omega)).trans hq2)
    have g2 : (((W.drew.setRow (w.heap.size + 1) (u8A (d.sure i))).setCell ⟨w.heap.size + 1 + 1, 0, none⟩ .nilIface).putObj D (.deferred none)).heap[w.heap.size + 1 + 1]? = some (.cells #[.nilIface] 28 (0, 0)) :=
      (World.putObj_heap_other hne2).trans ((setCell_here hsr 0 _).trans rfl)
    refine ⟨by simp, .inl ⟨_, _, rfl, run_takeDeferred hK2, ?_⟩⟩
    refine ⟨_, results_c34_28 rfl _ _ (w.heap.size + 1) (w.heap.size + 1 + 1) (u8A (d.sure i)) .nilIface rfl g1 (dk_isz HSL.out) rfl ((cell_of g2 0).trans rfl), rfl, ?_⟩
    exact ((below_setRow (below_drew hB) (by omega) _).setCell (p := ⟨w.heap.size + 1 + 1, 0, none⟩) (by show w.heap.size ≤ w.heap.size + 1 + 1; omega) _).trans (belowK_b (w := T) hle0 _ D _ _ hD hK2 rfl rfl)
  case stop =>
    rintro D c pre W hD ⟨k', hk', rfl⟩ ⟨⟨rfl, h1, ini, last, ⟨e1, e2, e3⟩, h2⟩, hB⟩ hK
    obtain ⟨hl1, hl2⟩ := lastW_came e1 e2 e3
    have hlen : last.2.2.length = 128 := by simpa [wrC] using HROW.out _ hl2
    have hres2 : res = last.2.2 := by rw [HRES.out, hl1]; rfl
    rw [secN_eq hlen] at h2
    subst hres2
    refine wpIn_wide.2 ?_
    go_wp2
    have g1 : (W.putObj D (.deferred none)).heap[w.heap.size + 1]? = some (.cells (u8A last.2.2) 34 (0, 0)) := (World.putObj_heap_other (by have := HSZ.out; omega)).trans h2
    have g2 : (W.putObj D (.deferred none)).heap[w.heap.size + 1 + 1]? = some (.cells #[.nilIface] 28 (0, 0)) := (World.putObj_heap_other (by have := HSZ.out; omega)).trans h1
    refine ⟨by simp, .inl ⟨_, _, rfl, run_takeDeferred hK, ?_⟩⟩
    refine ⟨_, results_c34_28 rfl _ _ (w.heap.size + 1) (w.heap.size + 1 + 1) (u8A last.2.2) .nilIface rfl g1 (dk_isz hlen) rfl ((cell_of g2 0).trans rfl), rfl, ?_⟩
    exact hB.trans (belowK_b (w := T) hle0 _ D _ _ hD hK rfl rfl)
theorem dk_readLen {B : Nat} {w0 w : World} {m r : List Asr} {v : Value} {d : Dk} (i : Int) (H : Cx B w0 w m) (k : At m (.own dkR v d) r) : (d.read i).1.length = 128 := by
  obtain ⟨b, A, W, rfl, HWF, H0⟩ := H.openDk k
  have h1 := H0.lookLen (x := (d.cnt, d.sure)) (by repeat (with_reducible (first | exact At.here | apply At.there))) i
  obtain ⟨A2, c2, _, _, hrow, _⟩ := H0.bigLen (xs := d.waiting) (by repeat (with_reducible (first | exact At.here | apply At.there)))
  unfold Dk.read
  split
  · exact sz0_len
  · split
    · exact sz0_len
    · simp only
      cases hl : lastW d.waiting i with
      | none => exact h1
      | some s =>
        unfold lastW at hl
        obtain ⟨x, hx, rfl⟩ := Option.map_eq_some_iff.1 hl
        have := hrow x (List.mem_reverse.1 (List.mem_of_find?_eq_some hx))
        simpa [wrC] using this
theorem dk_read {B : Nat} {w0 w : World} {m r : List Asr} {v : Value} {d : Dk} (i : Int) (hi : (Lit.int .i64 i).wf = true) (H : Cx B w0 w m) (k : At m (.own dkR v d) r) (hl : d.waiting.length < 100000) :
    Calls Try.prog 16 #[v, .int .i64 i] w fun e w1 => e = .returned (.tuple #[.agg (u8A (d.read i).1), errW (d.read i).2]) ∧ Cx B w0 w1 m := by
  by_cases hb : d.gone = true ∨ d.has i = false
  · exact (dk_read_bad i H k hb).mono fun e w1 h => ⟨h.1, H.below h.2⟩
  · have h1 : d.gone = false := by cases h : d.gone <;> simp_all
    have h2 : d.has i = true := by cases h : d.has i <;> simp_all
    refine (dk_read_ok i hi H k hl h1 h2).mono ?_
    rintro e w1 ⟨rfl, hb⟩
    refine ⟨?_, H.below hb⟩
    have : (d.read i).2 = none := by simp [Dk.read, h1, h2]
    rw [this]
    rfl

-- AUX DKF
def Dk.offE (d : Dk) : Option Int := if d.off = true then some 3 else none
def Dk.flush (d : Dk) : Dk := if d.off = true then d.step else d.step.settle (fun _ => true)
theorem dk_all (W : World) (n : Int) : Calls Try.prog 31 #[.int .i64 n] W fun e W' => e = .returned (.bool true) ∧ W' = W := by
  go_enter Try.func31, Try.ntmps31
  go_wp2
  go_ret
  exact ⟨rfl, rfl⟩
set_option maxRecDepth 100000 in
set_option maxHeartbeats 2000000 in
theorem dk_flush {B : Nat} {w0 w : World} {m r : List Asr} {v : Value} {d : Dk} (hl : d.cnt + d.waiting.length < 100000) (H : Cx B w0 w m) (k : At m (.own dkR v d) r) :
    Calls Try.prog 14 #[v] w fun e w1 => e = .returned (errW d.offE) ∧ Cx B w0 w1 (.own dkR v d.flush :: r) := by
  obtain ⟨b, A, W, rfl, HWF, H0⟩ := H.openDk k
  clear H k
  have h56 := Try.underlying56
  have h26 := Try.underlying26
  have HL := Aside0.mk hl
  clear hl
  have HOFF : Aside0 (d.off = (d.gone || (d.armed && decide (d.left = 0)))) := ⟨rfl⟩
  go_enter Try.func14, Try.ntmps14
  go_wp2_with fail
  refine (dk_step H0 (by repeat (with_reducible (first | exact At.here | apply At.there)))).mono ?_
  rintro e w1 (⟨hq, rfl, H3⟩ | ⟨hq, rfl, H3⟩)
  · go_wp2
    ((try simp only [Exit.inBlock, Exit.then]); (apply Cx.atPost); (focus ((repeat (with_reducible (first | exact (H3).toS | exact At.here | apply At.there | apply CxS.drewN | apply CxS.drew | apply CxS.alloc | apply CxS.set | apply CxS.setRow))))); intro H4)
    go_ret
    have hof : d.off = true := by rw [HOFF.out]; simpa using hq
    have hfl : d.flush = { d with gone := true } := by simp [Dk.flush, Dk.step, hof]
    rw [hfl, show d.offE = some 3 from if_pos hof]
    exact ⟨by first | rfl | trivial, H4.closeDk { d with gone := true } (by repeat (with_reducible (first | exact At.here | apply At.there))) (by repeat (with_reducible (first | exact At.here | apply At.there))) (by repeat (with_reducible (first | exact At.here | apply At.there))) HWF.out⟩
  · have hof : d.off = false := by
      rw [HOFF.out]
      obtain ⟨h1, h2⟩ := hq
      simp only [h1, Bool.false_or, Bool.and_eq_false_iff, decide_eq_false_iff_not]
      by_cases ha : d.armed = true
      · exact .inr fun h => h2 ⟨ha, h⟩
      · exact .inl (by simpa using ha)
    have hst : d.step = { d with left := wrap64 (d.left - 1), steps := wrap64 (d.steps + 1), gone := false } := by simp [Dk.step, hof, hq.1]
    have HFL : Aside0 (d.flush = d.step.settle (fun _ => true) ∧ d.offE = none) := ⟨by simp [Dk.flush, hof], by simp [Dk.offE, hof]⟩
    have H4 := H3.closeDk { d with left := wrap64 (d.left - 1), steps := wrap64 (d.steps + 1), gone := false } (by repeat (with_reducible (first | exact At.here | apply At.there))) (by repeat (with_reducible (first | exact At.here | apply At.there))) (by repeat (with_reducible (first | exact At.here | apply At.there))) HWF.out
    rw [← hst] at H4
    clear hof hst HOFF hq
    have hl2 : d.step.cnt + d.step.waiting.length < 100000 := by rw [d.step_rest.2.1, d.step_rest.2.2.2.1]; exact HL.out
    have HL2 := Aside0.mk hl2
    clear hl2
    go_wp2_with fail
    refine (dk_settle (fun _ => true) 31 #[] HL2.out H4 (by repeat (with_reducible (first | exact At.here | apply At.there))) (Go.Proofs.enters_of Try.func31 (by kernel_rfl) rfl) (fun W n _ _ => by simpa using dk_all W n)).mono ?_
    rintro e w2 ⟨rfl, H5⟩
    go_wp2
    ((try simp only [Exit.inBlock, Exit.then]); (apply Cx.atPost); (focus ((repeat (with_reducible (first | exact (H5).toS | exact At.here | apply At.there | apply CxS.drewN | apply CxS.drew | apply CxS.alloc | apply CxS.set | apply CxS.setRow))))); intro H6)
    go_ret
    rw [HFL.out.1, HFL.out.2]
    exact ⟨by first | rfl | trivial, H6⟩
def keepB (l : List Bool) (n : Nat) : Bool := l.getD n false
set_option maxRecDepth 100000 in
theorem dk_kept (W : World) (g : Nat) (A : Option Addr) (N c : Nat) (l : List Bool) (n : Nat) (hc : W.cell? ⟨g, 0, none⟩ = some (.slice A N c)) (hr : Kd.C Kd.bool W A N l) :
    Calls Try.prog 32 #[.int .i64 (n : Int), .pointer (some ⟨g, 0, none⟩)] W fun e W' => e = .returned (.bool (keepB l n)) ∧ W' = W := by
  have hN := hr.1
  by_cases h : n < N
  · obtain ⟨ad, e, hb⟩ := Kd.at_bool hr (n : Int) (by omega) (by omega)
    subst e
    rw [Int.toNat_natCast] at hb
    have hv : rdOf false l (n : Int) = keepB l n := by simp [rdOf, keepB]
    rw [hv] at hb
    have h0 : (0 : Int) ≤ (n : Int) := by omega
    have h1 : ((n : Int)) < (N : Int) := by omega
    go_enter Try.func32, Try.ntmps32
    go_wp2
    go_ret
    exact ⟨rfl, rfl⟩
  · have hv : keepB l n = false := by simp [keepB, List.getElem?_eq_none (show l.length ≤ n by omega)]
    rw [hv]
    have h1 : ¬ ((n : Int)) < (N : Int) := by omega
    go_enter Try.func32, Try.ntmps32
    go_wp2
    go_ret
    exact ⟨rfl, rfl⟩
def Dk.crash (d : Dk) (l : List Bool) : Dk := { d.settle (keepB l) with armed := false, gone := false }
set_option maxRecDepth 100000 in
set_option maxHeartbeats 2000000 in
theorem dk_crash {B : Nat} {w0 w : World} {m r : List Asr} {v : Value} {d : Dk} (A0 : Option Addr) (N c : Nat) (l : List Bool) (hl : d.cnt + d.waiting.length < 100000) (H : Cx B w0 w m) (k : At m (.own dkR v d) r)
    (hkeep : ∀ W, Cx B w0 W r → Kd.C Kd.bool W A0 N l) :
    Calls Try.prog 15 #[v, .slice A0 N c] w fun e w1 => e = .returned (.tuple #[]) ∧ Cx B w0 w1 (.own dkR v (d.crash l) :: r) := by
  have h26 := Try.underlying26
  have HK := Aside0.mk hkeep
  have HL := Aside0.mk hl
  have H0 := H.find k
  obtain ⟨b, A, W, rfl, HWF, _⟩ := H.openDk k
  clear hkeep hl H k
  go_enter Try.func15, Try.ntmps15
  go_wp2_with fail
  ((first | apply Cx.genCall | apply Cx.genCode | apply Cx.genList); (focus ((repeat (with_reducible (first | exact (H0).toS | exact At.here | apply At.there | apply CxS.drewN | apply CxS.drew | apply CxS.alloc | apply CxS.set | apply CxS.setRow))))); clear H0; intro w1 H1)
  have H1 := H1.find (a := .own dkR (.pointer (some ⟨b, 0, none⟩)) d) (by repeat (with_reducible (first | exact At.here | apply At.there)))
  refine (dk_settle (keepB l) 32 #[.pointer (some ⟨w.heap.size, 0, none⟩)] HL.out H1 (by repeat (with_reducible (first | exact At.here | apply At.there))) (Go.Proofs.enters_of Try.func32 (by kernel_rfl) rfl) (fun W n _ HW => by simpa using dk_kept W w.heap.size A0 N c l n ((cell_of (HW.blk (b := w.heap.size) (o := .cells #[.slice A0 N c] 23 (0, 0)) (by repeat (with_reducible (first | exact At.here | apply At.there)))) 0).trans rfl) (HK.out W HW.tail))).mono ?_
  rintro e w2 ⟨rfl, H2⟩
  clear H1
  obtain ⟨b', A', W', e, HWF', H3⟩ := H2.openDk (by repeat (with_reducible (first | exact At.here | apply At.there)))
  simp only [Value.pointer.injEq, Option.some.injEq, Addr.mk.injEq, and_true] at e
  subst e
  clear H2
  have F := (H3).facts; simp only [factsOf, Asr.facts, blkFacts, cellsAre, List.toList_toArray, forall_const, Nat.zero_add, Nat.reduceAdd, and_true, true_and] at F
  go_wp2
  ((try simp only [Exit.inBlock, Exit.then]); (apply Cx.atPost); (focus ((repeat (with_reducible (first | exact (H3).toS | exact At.here | apply At.there | apply CxS.drewN | apply CxS.drew | apply CxS.alloc | apply CxS.set | apply CxS.setRow))))); intro H4)
  try simp only [List.setIfInBounds_toArray, List.set_cons_zero, List.set_cons_succ] at H4
  go_end0
  exact ⟨by first | rfl | trivial, (H4.drop (a := .blk w.heap.size (.cells #[.slice A0 N c] 23 (0, 0))) (by repeat (with_reducible (first | exact At.here | apply At.there)))).closeDk { d.settle (keepB l) with armed := false, gone := false } (by repeat (with_reducible (first | exact At.here | apply At.there))) (by repeat (with_reducible (first | exact At.here | apply At.there))) (by repeat (with_reducible (first | exact At.here | apply At.there))) HWF'.out⟩

-- AUX DKL
theorem yieldsIf_load_cell {P : Program} {ops : Array Oper} {S : World → Prop} {op : Oper} {a : Act} (hw : Region.wanted op (yielded ops a.tmps) = true) (ty : TypeId) (x : Operand) (ho : op.op = .load ty x)
    (b o : Nat) (hx : a.eval x = .pointer (some ⟨b, o, none⟩)) (v : Value) (hag : ∀ w, (isAgg ty).run P w = .ok false w) (hS : ∀ w, S w → w.cell? ⟨b, o, none⟩ = some v) : YieldsIf P ops S op v a :=
  .inl ⟨hw, fun w hw' => by
    have hl : (loadVar ty ⟨b, o, none⟩).run P w = .ok v w := by simp [loadVar, hag w, hS w hw']
    unfold execOp
    simp only [ho, hx, Instr.loadAt, Instr.sureAddr, Sem.run_bind, Sem.run_pure, Result.andThen_ok, hl]⟩
theorem rangeAt_u8A {W : World} {g t : Nat} {fr : Nat × Nat} {s : List Int} (h : W.heap[g]? = some (.cells (u8A s) t fr)) : W.rangeAt g 0 (s.map (Value.int .u8)) := fun j v hv => by
  rw [cell_of h, Nat.zero_add]
  simpa [u8A] using hv
theorem Cx.low {B : Nat} {w0 w : World} {m r : List Asr} {b : Nat} {o : Obj} (h : Cx B w0 w m) (k : At m (.blk b o) r) : b < w.heap.size := blk_size (h.blk k)
theorem rangeAt_below_ {W W' : World} {g o : Nat} {cs : List Value} (h : W.rangeAt g o cs) (hb : Below W.heap.size W W') : W'.rangeAt g o cs := fun j v hv => (hb.cell (p := ⟨g, o + j, none⟩) (World.block_lt_of_cell? W _ (h j v hv))).trans (h j v hv)
theorem there_blk {W : World} {g t : Nat} {cs : Array Value} (h : W.heap[g]? = some (.cells cs t (0, 0))) (o n : Nat) (hn : o + n ≤ cs.size) : W.there g o n := fun j hj => ⟨by rw [cell_of h, Array.getElem?_eq_getElem (by omega)]; rfl, frozen_of h _⟩
theorem u8A_toList (s : List Int) : (u8A s).toList = s.map (Value.int .u8) := by simp [u8A]
/-- What a sector is, with the writes that wait. -/
def Dk.view (d : Dk) (i : Int) : List Int := (lastW d.waiting i).getD (d.sure i)
theorem lastW_snoc (ws : List (Int × List Int)) (n : Int) (s : List Int) (i : Int) : lastW (ws ++ [(n, s)]) i = if i = n then some s else lastW ws i := by
  unfold lastW
  rw [List.reverse_append, List.reverse_singleton, List.singleton_append, List.find?_cons]
  by_cases h : i = n
  · subst h; simp
  · rw [if_neg h, show ((n == i) = false) from by simpa using fun e => h e.symm]
theorem setF_all (ws : List (Int × List Int)) (f : Int → List Int) (i : Int) : ∀ k, k ≤ ws.length → setF (fun _ => true) ws f k i = (lastW (ws.take k) i).getD (f i)
  | 0, _ => by simp [setF, lastW]
  | k + 1, h => by
    obtain ⟨x, hx⟩ : ∃ x, ws[k]? = some x := ⟨_, List.getElem?_eq_getElem (by omega)⟩
    have ih := setF_all ws f i k (by omega)
    rw [List.take_add_one, hx, Option.toList_some, lastW_snoc]
    simp only [setF, if_true, updF, List.getD_eq_getElem?_getD, hx, Option.getD_some]
    by_cases h2 : i = x.1
    · rw [if_pos h2, if_pos h2]; rfl
    · rw [if_neg h2, if_neg h2]; exact ih
theorem Dk.flush_view {d : Dk} (h : d.off = false) (i : Int) : d.flush.view i = d.view i ∧ d.flush.sure i = d.view i := by
  have e := setF_all d.waiting d.sure i d.waiting.length (Nat.le_refl _)
  rw [List.take_length] at e
  have h1 : d.flush = d.step.settle (fun _ => true) := by simp [Dk.flush, h]
  have h2 := d.step_rest
  have h3 : d.flush.sure i = d.view i := by
    rw [h1]
    unfold Dk.settle Dk.view
    simp only [h2.2.1, h2.2.2.1, h2.2.2.2.1]
    exact e
  refine ⟨?_, h3⟩
  rw [← h3, h1]
  rfl
theorem Dk.flush_rest {d : Dk} (h : d.off = false) : d.flush.gone = d.gone ∧ d.flush.armed = d.armed ∧ d.flush.size = d.size ∧ d.flush.cnt = d.cnt + d.waiting.length ∧ d.flush.waiting = [] := by
  have h1 : d.flush = d.step.settle (fun _ => true) := by simp [Dk.flush, h]
  rw [h1]
  unfold Dk.settle Dk.step
  simp [h]
theorem Dk.write_yes {d : Dk} {i : Int} {s : List Int} (h1 : d.has i = true) (h2 : d.off = false) : d.write i s = { d.step with waiting := d.waiting ++ [(i, s)] } := by simp [Dk.write, h1, h2]
theorem Dk.write_no {d : Dk} {i : Int} {s : List Int} (h1 : d.has i = false) : d.write i s = d := by simp [Dk.write, h1]
theorem Dk.write_view {d : Dk} {i : Int} {s : List Int} (h1 : d.has i = true) (h2 : d.off = false) : (d.write i s).view = updF d.view i s := by
  funext j
  rw [Dk.write_yes h1 h2]
  unfold Dk.view updF
  simp only [lastW_snoc, d.step_rest.2.2.1]
  by_cases h : j = i
  · simp [h]
  · simp [h]
theorem Dk.write_rest {d : Dk} {i : Int} {s : List Int} (h1 : d.has i = true) (h2 : d.off = false) : (d.write i s).gone = d.gone ∧ (d.write i s).armed = d.armed ∧ (d.write i s).size = d.size ∧ (d.write i s).cnt = d.cnt ∧ (d.write i s).waiting.length = d.waiting.length + 1 := by
  rw [Dk.write_yes h1 h2]
  unfold Dk.step
  simp [h2]
theorem Dk.read_view {d : Dk} {i : Int} (h1 : d.gone = false) (h2 : d.has i = true) : d.read i = (d.view i, none) := by simp [Dk.read, Dk.view, h1, h2]
theorem Dk.off_no {d : Dk} (h1 : d.gone = false) (h2 : d.armed = false) : d.off = false := by simp [Dk.off, h1, h2]
/-- Six sectors in a row. -/
def flat6 (f : Int → List Int) : List Int := f 0 ++ (f 1 ++ (f 2 ++ (f 3 ++ (f 4 ++ f 5))))
theorem flat6_len {f : Int → List Int} (h : ∀ i, (f i).length = 128) : (flat6 f).length = 768 := by simp [flat6, h]
theorem six {P : Nat → Prop} (h0 : P 0) (h1 : P 1) (h2 : P 2) (h3 : P 3) (h4 : P 4) (h5 : P 5) : ∀ i, i < 6 → P i := by
  intro i hi
  rcases i with _ | _ | _ | _ | _ | _ | i
  · exact h0
  · exact h1
  · exact h2
  · exact h3
  · exact h4
  · exact h5
  · omega
theorem app_at {α : Type} (a b : List α) (n : Nat) (h : a.length = n) (j : Nat) : (a ++ b)[n + j]? = b[j]? := by
  rw [List.getElem?_append_right (by omega)]
  congr 1
  omega
theorem flat6_at {f : Int → List Int} (h : ∀ i, (f i).length = 128) (j : Nat) (hj : j < 128) : ∀ i : Nat, i < 6 → (flat6 f)[i * 128 + j]? = (f (i : Int))[j]? := by
  have g : ∀ (i : Int) (b : List Int), (f i ++ b)[j]? = (f i)[j]? := fun i b => List.getElem?_append_left (by rw [h]; exact hj)
  have t : ∀ (i : Int) (b : List Int) (q : Nat), (f i ++ b)[128 + q]? = b[q]? := fun i b q => app_at _ _ 128 (h i) q
  unfold flat6
  apply six
  · rw [show 0 * 128 + j = j by omega]; exact g 0 _
  · rw [show (0 + 1) * 128 + j = 128 + j by omega, t]; exact g 1 _
  · rw [show (0 + 1 + 1) * 128 + j = 128 + (128 + j) by omega, t, t]; exact g 2 _
  · rw [show (0 + 1 + 1 + 1) * 128 + j = 128 + (128 + (128 + j)) by omega, t, t, t]; exact g 3 _
  · rw [show (0 + 1 + 1 + 1 + 1) * 128 + j = 128 + (128 + (128 + (128 + j))) by omega, t, t, t, t]; exact g 4 _
  · rw [show (0 + 1 + 1 + 1 + 1 + 1) * 128 + j = 128 + (128 + (128 + (128 + (128 + j)))) by omega, t, t, t, t, t]; rfl
theorem flat6_put {f : Int → List Int} (h : ∀ i, (f i).length = 128) (s : List Int) (hs : s.length = 128) : ∀ i : Nat, i < 6 → (flat6 f).take (i * 128) ++ s ++ (flat6 f).drop (i * 128 + 128) = flat6 (updF f (i : Int) s) := by
  unfold flat6 updF
  apply six <;> simp [List.take_append, List.drop_append, h, List.take_of_length_le, List.drop_of_length_le]
theorem putAt_u8A (l s : List Int) (k : Nat) : putAt (u8A l) k (s.map (Value.int .u8)) = u8A (l.take k ++ s ++ l.drop (k + s.length)) := by
  simp [putAt, u8A]
theorem Only.setCells_ {w : World} {g : Nat} : ∀ (l : List Value) (o : Nat) (W : World), Only w W (fun i => i = g) → Only w (W.setCells g o l) (fun i => i = g)
  | [], _, _, h => h
  | v :: l, o, W, h => Only.setCells_ l (o + 1) _ (h.setCell (p := ⟨g, o, none⟩) (.inl rfl) v)
theorem setCells_blk {g t : Nat} {fr : Nat × Nat} : ∀ (l : List Value) (o : Nat) (W : World) (cs : Array Value), W.heap[g]? = some (.cells cs t fr) → o + l.length ≤ cs.size → (W.setCells g o l).heap[g]? = some (.cells (putAt cs o l) t fr)
  | [], o, W, cs, h, _ => by
    rw [show putAt cs o [] = cs from by simp [putAt]]
    exact h
  | v :: l, o, W, cs, h, hl => by
    have h1 := setCell_here h o v
    have ih := setCells_blk l (o + 1) _ _ h1 (by simp only [List.length_cons] at hl; simp; omega)
    have e : putAt (cs.setIfInBounds o v) (o + 1) l = putAt cs o (v :: l) := by
      have hf := fold_put (v :: l) 0 o cs (by simpa using hl)
      have hg := fold_put l 1 o (cs.setIfInBounds (o + 0) v) (by simp only [List.length_cons] at hl; simp; omega)
      rw [List.zipIdx_cons, List.foldl_cons, hg] at hf
      exact hf
    rw [← e]
    exact ih
theorem CxS.setMid {B : Nat} {w0 w : World} {n : Nat} {m r : List Asr} {g t : Nat} {cs : Array Value} (h : CxS B w0 w n m) (k : At m (.blk g (.cells cs t (0, 0))) r) (o : Nat) (l : List Value) (hl : o + l.length ≤ cs.size) :
    CxS B w0 (w.setCells g o l) n (.blk g (.cells (putAt cs o l) t (0, 0)) :: r) := by
  obtain ⟨h, rfl⟩ := h
  obtain ⟨S, ha, hs, hr, hc⟩ := (h.find k).open_
  have ho := Only.setCells_ (g := g) l o w (Only.refl _ _)
  have hsz : (w.setCells g o l).heap.size = w.heap.size := by
    clear ho hc hs hr ha
    have : ∀ (l : List Value) (o : Nat) (W : World), (W.setCells g o l).heap.size = W.heap.size := by
      intro l
      induction l with
      | nil => intro o W; rfl
      | cons v l ih => intro o W; rw [World.setCells, ih]; simp [World.setCell]
    exact this l o w
  exact ⟨hc _ [.blk g (.cells (putAt cs o l) t (0, 0))] (ho.mono fun i hi => by subst hi; exact ha.1) ⟨fun i => i = g, ⟨rfl, setCells_blk l o w cs ha.2 hl⟩, fun i hi => .inl (by subst hi; exact ha.1), trivial⟩, hsz⟩
theorem Cx.six {B : Nat} {w0 w : World} {m r : List Asr} {g : Nat} {t : Nat} {f : Int → List Int} (H : Cx B w0 w m) (k : At m (.blk g (.cells (u8A (flat6 f)) t (0, 0))) r) (h : ∀ i, (f i).length = 128) (i : Nat) (hi : i < 6) : w.rangeAt g (i * 128) ((f (i : Int)).map (Value.int .u8)) := fun j v hv => by
  have hj : j < 128 := by
    have := (List.getElem?_eq_some_iff.1 hv).1
    simpa [h] using this
  rw [cell_of (H.blk k), u8A, List.getElem?_toArray, List.getElem?_map, flat6_at h j hj i hi, ← List.getElem?_map]
  exact hv
theorem Dk.view_len {B : Nat} {w0 w : World} {m r : List Asr} {v : Value} {d : Dk} (H : Cx B w0 w m) (k : At m (.own dkR v d) r) (i : Int) : (d.view i).length = 128 := by
  obtain ⟨b, A, W, rfl, HWF, H0⟩ := H.openDk k
  have h1 := H0.lookLen (x := (d.cnt, d.sure)) (by repeat (with_reducible (first | exact At.here | apply At.there))) i
  obtain ⟨A2, c2, _, _, hrow, _⟩ := H0.bigLen (xs := d.waiting) (by repeat (with_reducible (first | exact At.here | apply At.there)))
  unfold Dk.view
  cases hl : lastW d.waiting i with
  | none => exact h1
  | some s =>
    unfold lastW at hl
    obtain ⟨x, hx, rfl⟩ := Option.map_eq_some_iff.1 hl
    have := hrow x (List.mem_reverse.1 (List.mem_of_find?_eq_some hx))
    simpa [wrC] using this
theorem dk_info6 : (Try.prog.info? 46).map (·.size) = some 768 := by kernel_rfl
theorem dk_zero6 (W : World) : (zeroValue 46).run Try.prog W = .ok (.agg (u8A (flat6 fun _ => sz0))) W := by
  have h : (Try.prog.info? 46).map (·.zero) = some (some (.agg (u8A (flat6 fun _ => sz0)))) := by kernel_rfl
  obtain ⟨i, hi, hz⟩ := Option.map_eq_some_iff.1 h
  simp [zeroValue, typeInfo, hi, hz]

-- AUX RF
/-- How the document's disk stands. -/
structure Rf where
  secs : List (List Int)
  waiting : List (Int × List Int)
  steps : Int
  left : Int
  armed : Bool
  gone : Bool
abbrev rfC (A1 : Option Addr) (n1 c1 : Nat) (A2 : Option Addr) (n2 c2 : Nat) (st lf : Int) (ar gn : Bool) : Array Value := #[.slice A1 n1 c1, .slice A2 n2 c2, .int .i64 st, .int .i64 lf, .bool ar, .bool gn]
theorem rf_info : (Try.prog.info? 50).map (·.size) = some 6 := by kernel_rfl
/-- A row that is read. -/
def rowAt {α : Type} (sz : Nat) (enc : α → List Value) (W : World) (A : Option Addr) (n c : Nat) (xs : List α) : Prop :=
  n = xs.length ∧ n ≤ c ∧ (∀ x ∈ xs, (enc x).length = sz) ∧ ∀ i x, xs[i]? = some x → ∃ g, A = some ⟨g, 0, none⟩ ∧ W.rangeAt g (i * sz) (enc x)
theorem rowAt.below {α : Type} {sz : Nat} {enc : α → List Value} {W W' : World} {A : Option Addr} {n c : Nat} {xs : List α} (h : rowAt sz enc W A n c xs) (hb : Below W.heap.size W W') : rowAt sz enc W' A n c xs :=
  ⟨h.1, h.2.1, h.2.2.1, fun i x hx => by obtain ⟨g, e, hr⟩ := h.2.2.2 i x hx; exact ⟨g, e, rangeAt_below_ hr hb⟩⟩
theorem Cx.rowOf {α : Type} {B : Nat} {w0 w : World} {m r : List Asr} {e size n c : Nat} {A : Option Addr} {enc : α → List Value} {xs : List α} (H : Cx B w0 w m) (k : At m (.own (bigR e size enc) (.slice A n c) xs) r) : rowAt size enc w A n c xs := by
  obtain ⟨A', c', e1, h2, h3, h4⟩ := H.bigLen k
  injection e1 with e1 e2 e3
  subst e1 e2 e3
  refine ⟨rfl, h2, h3, fun i x hx => ?_⟩
  obtain ⟨g, e, _, _, _, h5⟩ := H.bigAt k i x hx
  exact ⟨g, e, fun j u hu => h5 j u hu⟩
abbrev secE (s : List Int) : List Value := s.map (Value.int .u8)
abbrev secsR : Repr (List (List Int)) := bigR 34 128 secE
abbrev rwaitR : Repr (List (Int × List Int)) := bigR 87 129 wrC
def Rf.ok (x : Rf) : Bool := !(x.gone || (x.armed && decide (x.left = 0)))
def Rf.step (x : Rf) : Rf := if x.gone = true then x else if x.armed = true then (if x.left = 0 then { x with gone := true } else { x with left := wrap64 (x.left - 1), steps := wrap64 (x.steps + 1) }) else { x with steps := wrap64 (x.steps + 1) }
set_option maxRecDepth 100000 in
set_option maxHeartbeats 2000000 in
theorem rf_step (x : Rf) (A1 : Option Addr) (n1 c1 : Nat) (A2 : Option Addr) (n2 c2 : Nat) (w : World) :
    Calls Try.prog 42 #[.agg (rfC A1 n1 c1 A2 n2 c2 x.steps x.left x.armed x.gone)] w fun e w1 => e = .returned (.tuple #[.agg (rfC A1 n1 c1 A2 n2 c2 x.step.steps x.step.left x.step.armed x.step.gone), .bool x.ok]) ∧ Below w.heap.size w w1 := by
  have H0 := Cx.start w
  have hu := Try.underlying50
  obtain ⟨xs, ws, st, lf, ar, gn⟩ := x
  simp only [Rf.step, Rf.ok]
  cases gn
  · cases ar
    · go_enter Try.func42, Try.ntmps42
      go_wp2
      ((try simp only [Exit.inBlock, Exit.then]); (apply Cx.atPost); (focus ((repeat (with_reducible (first | exact (H0).toS | exact At.here | apply At.there | apply CxS.drewN | apply CxS.drew | apply CxS.alloc | apply CxS.set | apply CxS.setRow))))); intro HT)
      try simp only [List.setIfInBounds_toArray, List.set_cons_zero, List.set_cons_succ] at HT
      exact bodyPost_ret (results_ct rfl _ _ (w.heap.size + 1) _ _ (0, 0) _ rfl (HT.blk At.here) Try.underlying50 rfl rf_info) rfl ⟨by first | rfl | trivial, HT.bel⟩
    · by_cases hl : lf = 0
      · subst hl
        go_enter Try.func42, Try.ntmps42
        go_wp2
        ((try simp only [Exit.inBlock, Exit.then]); (apply Cx.atPost); (focus ((repeat (with_reducible (first | exact (H0).toS | exact At.here | apply At.there | apply CxS.drewN | apply CxS.drew | apply CxS.alloc | apply CxS.set | apply CxS.setRow))))); intro HT)
        try simp only [List.setIfInBounds_toArray, List.set_cons_zero, List.set_cons_succ] at HT
        exact bodyPost_ret (results_ct rfl _ _ (w.heap.size + 1) _ _ (0, 0) _ rfl (HT.blk At.here) Try.underlying50 rfl rf_info) rfl ⟨by first | rfl | trivial, HT.bel⟩
      · have hd : decide (lf = 0) = false := by simp [hl]
        have HL := Aside0.mk hl
        rw [if_neg (by simp), if_pos rfl, if_neg hl, hd]
        clear hl hd
        have hlb : (lf == 0) = false := by have := HL.out; simp [this]
        go_enter Try.func42, Try.ntmps42
        go_wp2
        ((try simp only [Exit.inBlock, Exit.then]); (apply Cx.atPost); (focus ((repeat (with_reducible (first | exact (H0).toS | exact At.here | apply At.there | apply CxS.drewN | apply CxS.drew | apply CxS.alloc | apply CxS.set | apply CxS.setRow))))); intro HT)
        try simp only [List.setIfInBounds_toArray, List.set_cons_zero, List.set_cons_succ] at HT
        exact bodyPost_ret (results_ct rfl _ _ (w.heap.size + 1) _ _ (0, 0) _ rfl (HT.blk At.here) Try.underlying50 rfl rf_info) rfl ⟨by first | rfl | trivial, HT.bel⟩
  · go_enter Try.func42, Try.ntmps42
    go_wp2
    ((try simp only [Exit.inBlock, Exit.then]); (apply Cx.atPost); (focus ((repeat (with_reducible (first | exact (H0).toS | exact At.here | apply At.there | apply CxS.drewN | apply CxS.drew | apply CxS.alloc | apply CxS.set | apply CxS.setRow))))); intro HT)
    try simp only [List.setIfInBounds_toArray, List.set_cons_zero, List.set_cons_succ] at HT
    exact bodyPost_ret (results_ct rfl _ _ (w.heap.size + 1) _ _ (0, 0) _ rfl (HT.blk At.here) Try.underlying50 rfl rf_info) rfl ⟨by first | rfl | trivial, HT.bel⟩

-- AUX RD
theorem flat_set {α : Type} {enc : α → List Value} {sz : Nat} : ∀ {xs : List α}, (∀ x ∈ xs, (enc x).length = sz) → ∀ (i : Nat) (x : α), i < xs.length → (xs.set i x).flatMap enc = (xs.flatMap enc).take (i * sz) ++ enc x ++ (xs.flatMap enc).drop (i * sz + sz)
  | [], _, i, _, h => by simp at h
  | y :: xs, hx, 0, x, _ => by
    have h1 := hx y List.mem_cons_self
    rw [List.set_cons_zero, List.flatMap_cons, List.flatMap_cons, Nat.zero_mul, List.take_zero, List.nil_append, Nat.zero_add, List.drop_append, List.drop_of_length_le (by omega), h1, Nat.sub_self]
    rfl
  | y :: xs, hx, i + 1, x, h => by
    have h1 := hx y List.mem_cons_self
    have ih := flat_set (fun z hz => hx z (List.mem_cons_of_mem _ hz)) i x (by simpa using h)
    have e1 : (i + 1) * sz = (enc y).length + i * sz := by rw [h1, Nat.add_mul]; omega
    rw [List.set_cons_succ, List.flatMap_cons, List.flatMap_cons, ih, e1, List.take_length_add_append, Nat.add_assoc, List.drop_length_add_append]
    simp only [List.append_assoc]
theorem take_splice {F R e : List Value} {k sz N : Nat} (h1 : F.length = N) (h2 : e.length = sz) (h3 : k + sz ≤ N) : ((F ++ R).take k ++ e ++ (F ++ R).drop (k + sz)).take N = F.take k ++ e ++ F.drop (k + sz) := by
  have e1 : (F ++ R).take k = F.take k := List.take_append_of_le_length (by omega)
  have e2 : (F ++ R).drop (k + sz) = F.drop (k + sz) ++ R := List.drop_append_of_le_length (by omega)
  rw [e1, e2, ← List.append_assoc]
  have hl : (F.take k ++ e ++ F.drop (k + sz)).length = N := by simp only [List.length_append, List.length_take, List.length_drop]; omega
  rw [← hl]
  exact List.take_left
theorem Cx.bigThere {α : Type} {B : Nat} {w0 w : World} {m r : List Asr} {e sz g n c : Nat} {enc : α → List Value} {xs : List α} (H : Cx B w0 w m) (k : At m (.own (bigR e sz enc) (.slice (some ⟨g, 0, none⟩) n c) xs) r) (i : Nat) (hi : i < xs.length) : w.there g (i * sz) sz := by
  obtain ⟨S, ⟨hx, hown, hS⟩, hs2⟩ := H.has k
  have hm : i * sz + sz ≤ xs.length * sz := by rw [← Nat.succ_mul]; exact Nat.mul_le_mul_right _ hi
  rcases hown.2 with ⟨e1, _⟩ | ⟨g', cap, cur, e1, _, hgg, hnc, hcm, hcs, htake⟩
  · cases e1
  · injection e1 with e1 e2 e3
    injection e1 with e1
    injection e1 with e1
    subst e1
    exact there_blk hgg _ _ (by rw [hcs]; exact Nat.le_trans hm (Nat.mul_le_mul_right _ hnc))
theorem Cx.bigSet {α : Type} {B : Nat} {w0 w : World} {m r : List Asr} {e sz g n c : Nat} {enc : α → List Value} {xs : List α} (H : Cx B w0 w m) (k : At m (.own (bigR e sz enc) (.slice (some ⟨g, 0, none⟩) n c) xs) r) (i : Nat) (x : α) (hi : i < xs.length) (hxx : (enc x).length = sz) :
    Cx B w0 (w.setCells g (i * sz) (enc x)) (.own (bigR e sz enc) (.slice (some ⟨g, 0, none⟩) n c) (xs.set i x) :: r) := by
  obtain ⟨S, ⟨hx, hown, hS⟩, hs2, _, hcl⟩ := (H.find k).open_
  have hm : i * sz + sz ≤ xs.length * sz := by rw [← Nat.succ_mul]; exact Nat.mul_le_mul_right _ hi
  have hflat := flat_len hx
  rcases hown.2 with ⟨e1, _⟩ | ⟨g', cap, cur, e1, hb0, hgg, hnc, hcm, hcs, htake⟩
  · cases e1
  · injection e1 with e1 e2 e3
    injection e1 with e1
    injection e1 with e1
    subst e1 e2 e3
    have hcl2 : i * sz + (enc x).length ≤ cur.size := by rw [hxx, hcs]; exact Nat.le_trans hm (Nat.mul_le_mul_right _ hnc)
    have hblk := setCells_blk (enc x) (i * sz) w cur hgg hcl2
    have hSg : S g := hS g rfl
    refine hcl _ [.own (bigR e sz enc) (.slice (some ⟨g, 0, none⟩) xs.length c) (xs.set i x)] ((Only.setCells_ (enc x) (i * sz) w (Only.refl _ _)).mono fun q hq => by subst hq; exact hSg)
      ⟨fun q => q = g, ⟨?_, ⟨?_, .inr ⟨g, c, _, ?_, hb0, hblk, ?_, hcm, ?_, ?_⟩⟩, fun q hq => by simp [Value.ownBlock] at hq; exact hq.symm⟩, fun q hq => .inl (by subst hq; exact hSg), trivial⟩
    · intro y hy
      rcases List.mem_or_eq_of_mem_set hy with h | h
      · exact hx y h
      · rw [h]; exact hxx
    · rw [flat_len (sz := sz) (fun y hy => by
        rcases List.mem_or_eq_of_mem_set hy with h | h
        · exact hx y h
        · rw [h]; exact hxx)]
    · rw [List.length_set]
    · rw [List.length_set]; exact hnc
    · simp only [putAt, List.size_toArray, List.length_append, List.length_take, List.length_drop, Array.length_toList]
      omega
    · rw [List.length_set, flat_set hx i x hi]
      have hsp : cur.toList = xs.flatMap enc ++ cur.toList.drop (xs.length * sz) := by rw [← htake, List.take_append_drop]
      simp only [putAt]
      rw [hxx]
      generalize cur.toList.drop (xs.length * sz) = R at hsp
      rw [hsp]
      have h1 : (xs.flatMap enc).length = xs.length * sz := hflat
      generalize xs.flatMap enc = F at h1 ⊢
      exact take_splice h1 hxx hm
/-- An append of nothing. -/
theorem app_none {P : Program} (w : World) (t ty e g n c : Nat) (i : TypeInfo) (ht : P.underlying t = some (.slice e)) (hi : P.info? e = some i) (hn : n ≤ c) :
    (Builtin.append_ #[t, t] ty #[.slice (some ⟨g, 0, none⟩) n c, .slice none 0 0]).run P w = .ok (.slice (some ⟨g, 0, none⟩) n c) w := by
  simp [Builtin.append_, run_underlying ht, sizeOf, typeInfo, hi, Builtin.lenOf, Builtin.firstCells, loadCells, loadCellsFrom, hn, storeCells]
theorem row_news {α : Type} {sz : Nat} {enc : α → List Value} {W : World} {g n c : Nat} {xs : List α} (h : rowAt sz enc W (some ⟨g, 0, none⟩) n c xs) : ∀ j u, (xs.flatMap enc)[j]? = some u → W.cell? ((⟨g, 0, none⟩ : Addr).add j) = some u := by
  intro j u hu
  obtain ⟨h1, h2, h3, h4⟩ := h
  rw [Addr.add_mid, Nat.zero_add]
  have hj := (List.getElem?_eq_some_iff.1 hu).1
  rw [flat_len h3] at hj
  have hs0 : 0 < sz := by
    rcases Nat.eq_zero_or_pos sz with h | h
    · subst h; simp at hj
    · exact h
  have hq : j / sz < xs.length := Nat.div_lt_of_lt_mul (by rw [Nat.mul_comm]; exact hj)
  have hjm : j = j / sz * sz + j % sz := by rw [Nat.mul_comm]; exact (Nat.div_add_mod j sz).symm
  obtain ⟨g', e, hr⟩ := h4 (j / sz) _ (List.getElem?_eq_getElem hq)
  injection e with e
  injection e with e
  subst e
  have hmem := h3 _ (List.getElem_mem hq)
  have hlt : j % sz < (enc xs[j / sz]).length := by rw [hmem]; exact Nat.mod_lt _ hs0
  rw [hjm]
  refine hr (j % sz) u ?_
  have hsplit : xs = xs.take (j / sz) ++ xs[j / sz] :: xs.drop (j / sz + 1) := by rw [← List.drop_eq_getElem_cons, List.take_append_drop]
  have hlen : ((xs.take (j / sz)).flatMap enc).length = j / sz * sz := by
    rw [flat_len (sz := sz) (fun y hy => h3 y (List.mem_of_mem_take hy)), List.length_take, Nat.min_eq_left (by omega)]
  rw [hsplit, List.flatMap_append, List.flatMap_cons, List.getElem?_append_right (by rw [hlen]; omega), hlen, List.getElem?_append_left (by omega)] at hu
  rw [show j - j / sz * sz = j % sz by omega] at hu
  exact hu
/-- An append of a row that is read, which may be nil. -/
theorem Cx.app_row {α : Type} {B : Nat} {w0 w : World} {mm r : List Asr} {e size bytes n c n2 c2 : Nat} {enc : α → List Value} {g : Nat} {A2 : Option Addr} {z : Value} {xs ys : List α} (H : Cx B w0 w mm) (k : At mm (.own (bigR e size enc) (.slice (some ⟨g, 0, none⟩) n c) xs) r) {P : Program} (t ty : TypeId)
    (ht : P.underlying t = some (.slice e)) (hi : (P.info? e).map (fun i => (i.zero, i.size, i.bytes)) = some (some z, size, bytes)) (hzs : z.cells.size = size) (hsz : 0 < size) (hby : bytes ≤ 100000000)
    (hr : rowAt size enc w A2 n2 c2 ys) (hnil : n2 = 0 → A2 = none ∧ c2 = 0) (h1 : ∀ y ∈ ys, ∀ u ∈ enc y, u.oneCell' = true) (h63 : xs.length + ys.length ≤ 1000000) :
    ∃ g' c' w', (Builtin.append_ #[t, t] ty #[.slice (some ⟨g, 0, none⟩) n c, .slice A2 n2 c2]).run P w = .ok (.slice (some ⟨g', 0, none⟩) (xs ++ ys).length c') w' ∧ Cx B w0 w' (.own (bigR e size enc) (.slice (some ⟨g', 0, none⟩) (xs ++ ys).length c') (xs ++ ys) :: r) := by
  obtain ⟨hn, hc, hx, hrd⟩ := id hr
  by_cases h0 : n2 = 0
  · obtain ⟨rfl, rfl⟩ := hnil h0
    subst h0
    obtain rfl : ys = [] := List.eq_nil_of_length_eq_zero hn.symm
    obtain ⟨A', c', e1, h2, _⟩ := H.bigLen k
    injection e1 with e1 e2 e3
    subst e1 e2 e3
    obtain ⟨i, hi, _⟩ := Option.map_eq_some_iff.1 hi
    rw [List.append_nil]
    exact ⟨_, _, w, app_none w t ty e g xs.length c i ht hi h2, H.find k⟩
  · obtain ⟨g2, e2, _⟩ := hrd 0 _ (List.getElem?_eq_getElem (by omega))
    subst e2
    obtain ⟨v', w', hrun, _, H2⟩ := H.app_big k (P := P) t ty ht hi hzs hsz hby ys ⟨g2, 0, none⟩ n2 c2 hn hx (row_news hr) (fun u hu => by obtain ⟨y, hy, hu⟩ := List.mem_flatMap.1 hu; exact h1 y hy u hu) h63
    obtain ⟨A', c', rfl, _, _, hs⟩ := H2.bigLen At.here
    obtain ⟨g', rfl, _⟩ := hs (by rw [List.length_append]; omega)
    exact ⟨g', c', w', hrun, H2⟩
theorem wr_parts {W : World} {g2 k : Nat} {x : Int × List Int} {n : Int} (h : W.rangeAt g2 (k * 129) (wrC x)) (hn : x.1 = n) : W.cell? ⟨g2, k * 129, none⟩ = some (.int .i64 n) ∧ W.rangeAt g2 (k * 129 + 1) (secE x.2) :=
  ⟨by rw [← hn]; exact h 0 _ rfl, fun j u hu => by rw [Nat.add_assoc]; exact h (1 + j) u (by rw [Nat.add_comm]; exact hu)⟩
def doneL (xs : List (List Int)) (ws : List (Int × List Int)) : List (List Int) := ws.foldl (fun l p => l.set p.1.toNat p.2) xs
theorem doneL_len (xs : List (List Int)) (ws : List (Int × List Int)) : (doneL xs ws).length = xs.length := by
  unfold doneL
  induction ws generalizing xs with
  | nil => rfl
  | cons p ws ih => rw [List.foldl_cons, ih, List.length_set]
theorem doneL_snoc (xs : List (List Int)) (ws : List (Int × List Int)) (p : Int × List Int) : doneL xs (ws ++ [p]) = (doneL xs ws).set p.1.toNat p.2 := by simp [doneL]
theorem sec_info3 : (Try.prog.info? 34).map (fun i => (i.zero, i.size, i.bytes)) = some (some (.agg (u8A sz0)), 128, 128) := by kernel_rfl
theorem secE_one (s : List Int) : ∀ u ∈ secE s, u.oneCell' = true := by
  intro u hu
  obtain ⟨y, _, rfl⟩ := List.mem_map.1 hu
  rfl
set_option maxRecDepth 100000 in
set_option maxHeartbeats 4000000 in
theorem rf_done {B : Nat} {w0 w : World} {m : List Asr} (g1 n1 c1 : Nat) (A2 : Option Addr) (n2 c2 : Nat) (xs : List (List Int)) (ws : List (Int × List Int)) (H : Cx B w0 w m) (h1 : rowAt 128 secE w (some ⟨g1, 0, none⟩) n1 c1 xs) (h2 : rowAt 129 wrC w A2 n2 c2 ws)
    (hin : ∀ p ∈ ws, 0 ≤ p.1 ∧ p.1 < n1) (hl1 : 0 < n1 ∧ n1 ≤ 100000) (hl2 : n2 ≤ 100000) :
    Calls Try.prog 43 #[.slice (some ⟨g1, 0, none⟩) n1 c1, .slice A2 n2 c2] w fun e w1 => ∃ g c, e = .returned (.slice (some ⟨g, 0, none⟩) n1 c) ∧ Cx B w0 w1 (.own secsR (.slice (some ⟨g, 0, none⟩) n1 c) (doneL xs ws) :: m) := by
  have Hc := Cx.start w
  obtain ⟨hn1, hc1, hx1, _⟩ := id h1
  obtain ⟨hn2, hc2, hx2, hr2⟩ := id h2
  have HN1 := Aside0.mk hn1
  have HN2 := Aside0.mk hn2
  have HI := Aside0.mk hin
  have HR1 := Aside0.mk h1
  have HR2 := Aside0.mk hr2
  have HX1 := Aside0.mk hx1
  have HX2 := Aside0.mk hx2
  have HH := Aside0.mk H
  clear H hin h1 h2 hn1 hn2 hx1 hx2 hr2 hc1 hc2
  go_enter Try.func43, Try.ntmps43
  go_wp2_with ((with_reducible refine gate_builtin (b := .append) (xs := #[.tmp 7, .tmp 8]) rfl ?_); at_builtin; (apply Cx.atList); (focus ((repeat (with_reducible (first | exact (Hc).toS | exact At.here | apply At.there | apply CxS.drewN | apply CxS.drew | apply CxS.alloc | apply CxS.set | apply CxS.setRow))))); intro HT_; have HT2 := HT_.bigLit (e := 34) (size := 128) (enc := secE) (cs := #[]) [] (by repeat (with_reducible (first | exact At.here | apply At.there))) (by simp) (fun _ h => by cases h) (by decide); obtain ⟨g, c', w', hrun, H3⟩ := HT2.app_row At.here (P := Try.prog) 31 31 Try.underlying31 sec_info3 (by rw [Value.cells, u8A_size, sz0_len]) (by decide) (by decide) (HR1.out.below HT_.bel) (fun h => by omega) (fun y _ => secE_one y) (by have := HN1.out; simp; omega); rw [List.nil_append, ← HN1.out] at hrun H3; refine wpList_append_run rfl (.tmp 7) (.tmp 8) 31 31 rfl _ _ _ rfl rfl hrun ?_; clear hrun HT_ HT2)
  go_loopw [6] (fun v6 wr => ∃ k : Nat, k ≤ n2 ∧ v6 = .int .i64 k ∧ Cx w.heap.size w wr [.own secsR (.slice (some ⟨g, 0, none⟩) n1 c') (doneL xs (ws.take k))]) (fun v6 _ => n2 - (intOf v6).toNat)
  case atStart => exact ⟨0, by omega, rfl, H3⟩
  case round =>
    clear H3
    obtain ⟨k, hk, rfl, H4⟩ := hrel
    have k0 : (0 : Int) ≤ (k : Int) := by omega
    by_cases hlt : k < n2
    · have k1 : (k : Int) < (n2 : Int) := by omega
      obtain ⟨x, hx⟩ : ∃ x, ws[k]? = some x := ⟨_, List.getElem?_eq_getElem (by have := HN2.out; omega)⟩
      obtain ⟨g2, rfl, hr⟩ := HR2.out k x hx
      have hmem := List.mem_of_getElem? hx
      obtain ⟨hi0, hi1⟩ := HI.out x hmem
      have hxl : (wrC x).length = 129 := HX2.out x hmem
      have hx2 : x.2.length = 128 := by simpa [wrC] using hxl
      obtain ⟨n, hn⟩ : ∃ n : Nat, x.1 = (n : Int) := ⟨x.1.toNat, by omega⟩
      have hn0 : (0 : Int) ≤ (n : Int) := by omega
      have hn1 : (n : Int) < (n1 : Int) := by omega
      have hr' := rangeAt_below_ hr (H4.bel)
      obtain ⟨c0, hr5⟩ := wr_parts hr' hn
      have HRW := Aside0.mk hr
      have HNN := Aside0.mk hn
      have HS : Aside0 (doneL xs (ws.take (k + 1)) = (doneL xs (ws.take k)).set n x.2) := ⟨by rw [List.take_add_one, hx, Option.toList_some, doneL_snoc, hn, Int.toNat_natCast]⟩
      have HNL : Aside0 (n < (doneL xs (ws.take k)).length) := ⟨by rw [doneL_len]; have := HN1.out; omega⟩
      have HX := Aside0.mk hx2
      clear hx hr hmem hi0 hi1 hxl hx2 hn hr'
      go_wp2_with fail
      refine wp_region_held_drew (S := fun W => W.cell? ⟨g2, k * 129, none⟩ = some (.int .i64 (n : Int)) ∧ W.rangeAt g2 (k * 129 + 1) (secE x.2)) (by kernel_rfl) (⟨c0, hr5⟩) (fun hH_ => ?_)
      clear c0 hr5
      have H5 := (H4.toS.drew).cx
      clear H4
      (refine wpAnyH_take (i := 0) (v := ?_) rfl (by kernel_rfl) (by kernel_rfl) (by kernel_rfl) (fun _ _ _ h => h) (Or.inl ⟨by rfl, ?_⟩) hH_ ?_; rotate_left; (focus (intro w_ hSw_; go_simp; try (with_reducible rfl))); simp only [List.getElem_toArray, List.getElem_cons_succ, List.getElem_cons_zero, Act.put, List.setIfInBounds_toArray, List.set_cons_zero, List.set_cons_succ])
      (refine wpAnyH_take (i := 1) (v := ?_) rfl (by kernel_rfl) (by kernel_rfl) (by kernel_rfl) (fun _ _ _ h => h) (Or.inl ⟨by rfl, ?_⟩) hH_ ?_; rotate_left; (focus (intro w_ hSw_; go_simp; try (with_reducible rfl))); simp only [List.getElem_toArray, List.getElem_cons_succ, List.getElem_cons_zero, Act.put, List.setIfInBounds_toArray, List.set_cons_zero, List.set_cons_succ])
      (refine wpAnyH_take (i := 2) (v := ?_) rfl (by kernel_rfl) (by kernel_rfl) (by kernel_rfl) (fun _ _ _ h => h) (Or.inl ⟨by rfl, ?_⟩) hH_ ?_; rotate_left; (focus (intro w_ hSw_; go_simp; try (with_reducible rfl))); simp only [List.getElem_toArray, List.getElem_cons_succ, List.getElem_cons_zero, Act.put, List.setIfInBounds_toArray, List.set_cons_zero, List.set_cons_succ])
      (refine wpAnyH_take (i := 3) (v := ?_) rfl (by kernel_rfl) (by kernel_rfl) (by kernel_rfl) (fun _ _ _ h => h) (Or.inl ⟨by rfl, ?_⟩) hH_ ?_; rotate_left; (focus (intro w_ hSw_; go_simp; try (with_reducible rfl))); simp only [List.getElem_toArray, List.getElem_cons_succ, List.getElem_cons_zero, Act.put, List.setIfInBounds_toArray, List.set_cons_zero, List.set_cons_succ])
      (refine wpAnyH_take (i := 4) (v := ?_) rfl (by kernel_rfl) (by kernel_rfl) (by kernel_rfl) (fun _ _ _ h => h) (Or.inl ⟨by rfl, ?_⟩) hH_ ?_; rotate_left; (focus (intro w_ hSw_; go_simp; try (with_reducible rfl))); simp only [List.getElem_toArray, List.getElem_cons_succ, List.getElem_cons_zero, Act.put, List.setIfInBounds_toArray, List.set_cons_zero, List.set_cons_succ])
      (refine wpAnyH_take (i := 5) rfl (by kernel_rfl) (by kernel_rfl) (by kernel_rfl) (fun _ _ _ h => h) (yieldsIf_load_cell (by rfl) 3 (.tmp 20) rfl (g2) (k * 129) rfl (.int .i64 (n : Int)) (run_isAgg_plain Try.underlying3 rfl) (fun W h => h.1)) hH_ ?_; simp only [List.getElem_toArray, List.getElem_cons_succ, List.getElem_cons_zero, Act.put, List.setIfInBounds_toArray, List.set_cons_zero, List.set_cons_succ])
      (refine wpAnyH_take (i := 6) (v := ?_) rfl (by kernel_rfl) (by kernel_rfl) (by kernel_rfl) (fun _ _ _ h => h) (Or.inl ⟨by rfl, ?_⟩) hH_ ?_; rotate_left; (focus (intro w_ hSw_; go_simp; try (with_reducible rfl))); simp only [List.getElem_toArray, List.getElem_cons_succ, List.getElem_cons_zero, Act.put, List.setIfInBounds_toArray, List.set_cons_zero, List.set_cons_succ])
      (refine wpAnyH_take (i := 7) (v := ?_) rfl (by kernel_rfl) (by kernel_rfl) (by kernel_rfl) (fun _ _ _ h => h) (Or.inl ⟨by rfl, ?_⟩) hH_ ?_; rotate_left; (focus (intro w_ hSw_; go_simp; try (with_reducible rfl))); simp only [List.getElem_toArray, List.getElem_cons_succ, List.getElem_cons_zero, Act.put, List.setIfInBounds_toArray, List.set_cons_zero, List.set_cons_succ])
      (refine wpAnyH_take (i := 8) (v := ?_) rfl (by kernel_rfl) (by kernel_rfl) (by kernel_rfl) (fun _ _ _ h => h) (Or.inl ⟨by rfl, ?_⟩) hH_ ?_; rotate_left; (focus (intro w_ hSw_; go_simp; try (with_reducible rfl))); simp only [List.getElem_toArray, List.getElem_cons_succ, List.getElem_cons_zero, Act.put, List.setIfInBounds_toArray, List.set_cons_zero, List.set_cons_succ])
      (refine wpAnyH_take (i := 9) (v := ?_) rfl (by kernel_rfl) (by kernel_rfl) (by kernel_rfl) (fun _ _ _ h => h) (Or.inl ⟨by rfl, ?_⟩) hH_ ?_; rotate_left; (focus (intro w_ hSw_; go_simp; try (with_reducible rfl))); simp only [List.getElem_toArray, List.getElem_cons_succ, List.getElem_cons_zero, Act.put, List.setIfInBounds_toArray, List.set_cons_zero, List.set_cons_succ])
      (refine wpAnyH_take (i := 10) rfl (by kernel_rfl) (by kernel_rfl) (by kernel_rfl) (fun _ _ _ h => h) (yieldsIf_load_mid (by rfl) 34 (.tmp 25) rfl (g2) (k * 129 + 1) rfl (secE x.2) _ (fun W h => h.2) Try.underlying34 rfl (by rw [List.length_map, HX.out]; exact dk_info)) hH_ ?_; simp only [List.getElem_toArray, List.getElem_cons_succ, List.getElem_cons_zero, Act.put, List.setIfInBounds_toArray, List.set_cons_zero, List.set_cons_succ])
      (refine wpAnyH_take (i := 11) (v := ?_) rfl (by kernel_rfl) (by kernel_rfl) (by kernel_rfl) (fun _ _ _ h => h) (Or.inl ⟨by rfl, ?_⟩) hH_ ?_; rotate_left; (focus (intro w_ hSw_; go_simp; try (with_reducible rfl))); simp only [List.getElem_toArray, List.getElem_cons_succ, List.getElem_cons_zero, Act.put, List.setIfInBounds_toArray, List.set_cons_zero, List.set_cons_succ])
      have H6 := H5.bigSet At.here n x.2 HNL.out (by rw [List.length_map]; exact HX.out)
      rw [← HS.out] at H6
      (refine wpAnyH_ready (rs := [12]) (by kernel_rfl) (by simp) ?_; refine AllReadyH.cons rfl (fun K hK => ?_) AllReadyH.nil; rw [if_pos (by rfl)]; refine wp_store_mid 34 (.tmp 27) (.tmp 26) rfl (g) (n * 128) ((secE x.2).toArray) rfl rfl (by rw [List.size_toArray, List.length_map, HX.out]; exact H5.bigThere At.here n HNL.out) (by rw [List.size_toArray, List.length_map, HX.out]; exact dk_info) (all_oneCell_toArray (secE_one _)) ?_; refine hK.out _ _ (wr_parts (rangeAt_below_ HRW.out H6.bel) HNN.out) (fun hH2_ => ?_); clear hK K hH_; have hH_ := hH2_; clear hH2_; try simp only [List.getElem_toArray, List.getElem_cons_succ, List.getElem_cons_zero, Act.put, List.setIfInBounds_toArray, List.set_cons_zero, List.set_cons_succ])
      refine wpAnyH_done (by kernel_rfl) ?_ _
      clear H5 hH_
      go_wp2
      exact ⟨⟨k + 1, by omega, by go_num, H6⟩, by simp [intOf]; omega⟩
    · obtain rfl : k = n2 := by omega
      have h6 : ws.take k = ws := List.take_of_length_le (by have := HN2.out; omega)
      rw [h6] at H4
      clear h6
      go_wp2
      go_ret
      exact ⟨g, c', by first | rfl | trivial, HH.out.join H4⟩

-- AUX RP
theorem wr_info2 : (Try.prog.info? 87).map (fun i => (i.zero, i.size, i.bytes)) = some (some (.agg (wrC (0, sz0)).toArray), 129, 136) := by kernel_rfl
theorem rf_build (i : Int) (s : List Int) (hs : s.length = 128) (W : World) : (Instr.build 87 #[(0, .int .i64 i), (1, .agg (u8A s))]).run Try.prog W = .ok (.agg (wrC (i, s)).toArray) W := by
  refine run_build W _ _ _ ?_
  obtain ⟨it, hi, hz⟩ := Option.map_eq_some_iff.1 wr_info2
  simp only [Prod.mk.injEq] at hz
  have hp : (match Try.prog.underlying 87 with | some (.struct fields) => fields.toList.mapM (fun f => (Try.prog.info? f.type).map fun i => (f.offset, i.size)) | _ => none) = some [(0, 1), (1, 128)] := by kernel_rfl
  unfold Program.built
  simp only [hi, Try.underlying87, hz.1] at hp ⊢
  rw [hp]
  simp only [Value.cells]
  rw [fill_cons (off := 0) (size := 1) (by rfl) (by rfl) (by simp [wrC]), fill_cons (off := 1) (size := 128) (by rfl) (by simp [Value.cells, u8A_size, hs]) (by simp [putAt, wrC, Value.cells, sz0])]
  unfold Instr.fill
  simp [putAt, wrC, Value.cells, u8A, sz0, hs]
theorem rf_slice1 (x : Int × List Int) (hx : x.2.length = 128) (W : World) : (Instr.buildSlice 48 1 #[(0, .agg (wrC x).toArray)]).run Try.prog W = .ok (.slice (some ⟨W.heap.size, 0, none⟩) 1 1) (W.alloc (.cells (wrC x).toArray 87)) :=
  run_buildSlice_one W 48 87 129 (.agg (wrC x).toArray) (.agg (wrC (0, sz0)).toArray) Try.underlying48 (by
    obtain ⟨it, hi, hz⟩ := Option.map_eq_some_iff.1 wr_info2
    simp only [Prod.mk.injEq] at hz
    rw [hi, Option.map_some, hz.1, hz.2.1]) (by simp [Value.cells, wrC, sz0]) (by simp [Value.cells, wrC, hx]) (by decide) (by decide)

-- AUX RS
theorem Cx.genP {B : Nat} {w0 T : World} {n : Nat} {m : List Asr} {C : World → Prop} (h : CxS B w0 T n m) (k : ∀ w1, Cx B w0 w1 m → C w1) : C T := k T h.cx
theorem exec_load_cell {P : Program} {o : Oper} {ρ : Operand → Value} {w : World} (ty : TypeId) (x : Operand) (ho : o.op = .load ty x) (b i : Nat) (hx : ρ x = .pointer (some ⟨b, i, none⟩)) (v : Value) (hag : (isAgg ty).run P w = .ok false w) (hc : w.cell? ⟨b, i, none⟩ = some v) :
    (execOp ρ o).run P w = .ok (.value v) w := by
  have hl : (loadVar ty ⟨b, i, none⟩).run P w = .ok v w := by simp [loadVar, hag, hc]
  unfold execOp
  simp only [ho, hx, Instr.loadAt, Instr.sureAddr, Sem.run_bind, Sem.run_pure, Result.andThen_ok, hl]
theorem rowAt_one {α : Type} {sz : Nat} {enc : α → List Value} {W : World} {g e : Nat} {x : α} (h : W.heap[g]? = some (.cells (enc x).toArray e (0, 0))) (hl : (enc x).length = sz) : rowAt sz enc W (some ⟨g, 0, none⟩) 1 1 [x] :=
  ⟨rfl, Nat.le_refl _, fun y hy => by rw [List.mem_singleton] at hy; subst hy; exact hl, fun i y hy => by
    rcases i with _ | i
    · simp only [List.getElem?_cons_zero, Option.some.injEq] at hy
      subst hy
      exact ⟨g, rfl, fun j u hu => by rw [Nat.zero_mul, Nat.zero_add, cell_of h]; simpa using hu⟩
    · simp at hy⟩
section
variable {P : Program} {ops : Array Oper} {o : Oper} {a : Act} {K : Act → World → Prop} {Q : Exit → Act → World → Prop} {B : Nat} {w0 W : World} {m r : List Asr}
theorem Cx.stepNil {α : Type} {e sz : Nat} {enc : α → List Value} (H : Cx B w0 W m) (hw : Region.wanted o (yielded ops a.tmps) = true) (t : TypeId) (ho : o.op = .buildSlice t 0 #[])
    (hrun : ∀ W, (Instr.buildSlice t 0 #[]).run P W = .ok (.slice (some ⟨W.heap.size, 0, none⟩) 0 0) (W.alloc (.cells #[] e)))
    (h : ∀ g W', Cx B w0 W' (.own (bigR e sz enc) (.slice (some ⟨g, 0, none⟩) 0 0) [] :: m) → K (a.put o.dst (.slice (some ⟨g, 0, none⟩) 0 0)) W') : if Region.wanted o (yielded ops a.tmps) = true then o.wp P a W K Q else K (a.put o.dst undef) W :=
  step_exec hw (exec_buildSlice t 0 #[] ho #[] rfl (hrun W)) (h _ _ ((H.toS.alloc (.cells #[] e (0, 0))).cx.bigLit (xs := []) At.here rfl (fun _ h => by cases h) (by simp)))
theorem Cx.stepOne {e : Nat} {v : Value} {cs : Array Value} (H : Cx B w0 W m) (hw : Region.wanted o (yielded ops a.tmps) = true) (t : TypeId) (x : Operand) (ho : o.op = .buildSlice t 1 #[(0, x)]) (hx : a.eval x = v)
    (hrun : ∀ W, (Instr.buildSlice t 1 #[(0, v)]).run P W = .ok (.slice (some ⟨W.heap.size, 0, none⟩) 1 1) (W.alloc (.cells cs e)))
    (h : ∀ g W', Cx B w0 W' (.blk g (.cells cs e (0, 0)) :: m) → K (a.put o.dst (.slice (some ⟨g, 0, none⟩) 1 1)) W') : if Region.wanted o (yielded ops a.tmps) = true then o.wp P a W K Q else K (a.put o.dst undef) W := by
  subst hx
  exact step_exec hw (exec_buildSlice t 1 #[(0, x)] ho #[(0, a.eval x)] rfl (hrun W)) (h _ _ (H.toS.alloc (.cells cs e (0, 0))).cx)
theorem Cx.stepApp {α : Type} {e size bytes n c n2 c2 g : Nat} {enc : α → List Value} {A2 : Option Addr} {z : Value} (xs ys : List α) (H : Cx B w0 W m) (k : At m (.own (bigR e size enc) (.slice (some ⟨g, 0, none⟩) n c) xs) r) (hw : Region.wanted o (yielded ops a.tmps) = true) (s x : Operand) (t : TypeId)
    (ho : o.op = .call { callee := .builtin .append, args := #[s, x], argTypes := #[t, t] }) (ht : P.underlying t = some (.slice e)) (hi : (P.info? e).map (fun i => (i.zero, i.size, i.bytes)) = some (some z, size, bytes)) (hzs : z.cells.size = size) (hsz : 0 < size) (hby : bytes ≤ 100000000)
    (hs : a.eval s = .slice (some ⟨g, 0, none⟩) n c) (hx : a.eval x = .slice A2 n2 c2) (hr : rowAt size enc W A2 n2 c2 ys) (hnil : n2 = 0 → A2 = none ∧ c2 = 0) (h1 : ∀ y ∈ ys, ∀ u ∈ enc y, u.oneCell' = true) (h63 : xs.length + ys.length ≤ 1000000)
    (h : ∀ g' n' c' W', n' = (xs ++ ys).length → Cx B w0 W' (.own (bigR e size enc) (.slice (some ⟨g', 0, none⟩) n' c') (xs ++ ys) :: r) → K (a.put o.dst (.slice (some ⟨g', 0, none⟩) n' c')) W') : if Region.wanted o (yielded ops a.tmps) = true then o.wp P a W K Q else K (a.put o.dst undef) W := by
  obtain ⟨g', c', w', hrun, H2⟩ := Cx.app_row H k (P := P) t o.type ht hi hzs hsz hby hr hnil h1 h63
  exact append_step_run hw s x t t ho _ _ _ hs hx hrun (h g' _ c' w' rfl H2)
end
theorem rf_slice0 (W : World) : (Instr.buildSlice 48 0 #[]).run Try.prog W = .ok (.slice (some ⟨W.heap.size, 0, none⟩) 0 0) (W.alloc (.cells #[] 87)) := by
  obtain ⟨it, hi, hz⟩ := Option.map_eq_some_iff.1 wr_info2
  simp only [Prod.mk.injEq] at hz
  simp [Instr.buildSlice, run_underlying Try.underlying48, sizeOf, typeInfo, hi, hz.2.1, Instr.fill, newRow]
  rw [show (Array.range 0) = (#[] : Array Nat) from by decide]
  simp

-- AUX DKC
-- needs: Cx.putMap Cx.app_row dk_zerob dk_read rangeAt_u8A yieldsIf_load_cell rf_done
/-- A map's block is known as a map is. -/
theorem Cx.mapBlk {B : Nat} {w0 w : World} {m r : List Asr} {v : Value} {x : Nat × (Int → List Int)} (H : Cx B w0 w m) (k : At m (.own mapR v x) r) :
    ∃ b es clock, v = .map (some b) ∧ w.heap[b]? = some (.map es clock) ∧ ∀ {B' : Nat} {w0' w' : World} {m' r' : List Asr} {b' : Nat}, Cx B' w0' w' m' → At m' (.blk b' (.map es clock)) r' → Cx B' w0' w' (.own mapR (.map (some b')) x :: r') := by
  obtain ⟨S, ⟨b, n, D, e, _, hn, ⟨es, clock, hb, F, hs, hD⟩, hl, ha⟩, _⟩ := H.has k
  refine ⟨b, es, clock, e, hb, fun {B' w0' w' m' r' b'} H' k' => ?_⟩
  obtain ⟨S', ha', hs', _, hcl⟩ := (H'.find k').open_
  exact hcl w' [.own mapR (.map (some b')) x] (Only.refl _ _) ⟨S', ⟨b', n, D, rfl, ha'.1, hn, ⟨es, clock, ha'.2, F, hs, hD⟩, hl, ha⟩, fun q hq => .inl hq, trivial⟩
theorem dk_mapClone {B : Nat} {w0 w : World} {m r : List Asr} {v : Value} {x : Nat × (Int → List Int)} (H : Cx B w0 w m) (k : At m (.own mapR v x) r) :
    Calls Try.prog 39 #[v] w fun e w1 => ∃ b, e = .returned (.map (some b)) ∧ Cx B w0 w1 (.own mapR (.map (some b)) x :: m) := by
  obtain ⟨b, es, clock, rfl, hb, hcl⟩ := H.mapBlk k
  have hq := fun w => run_eql_map_nil_sl (P := Try.prog) w 62 _ _ (some b) Try.underlying62
  have h62 := Try.underlying62
  have h20 := Try.underlying20
  have HCL := Aside0.mk @hcl
  have HH := Aside0.mk H
  clear H k hcl
  go_enter Try.func39, Try.ntmps39
  go_wp2
  rw [run_callFunc_extern Try.func44 (by kernel_rfl) (by kernel_rfl) (by kernel_rfl) (e := Extern.MapsClone.clone) (by kernel_rfl), run_maps_clone_sl w 62 hb]
  simp only [Result.andThen]
  rw [Oper.upon_value]
  go_wp2
  rw [run_typeAssert_map_sl _ 62 20 _ _ _ h62]
  simp only [Result.andThen]
  rw [Oper.upon_value]
  go_wp2
  go_ret
  exact ⟨_, rfl, HCL.out ((HH.out.toS.alloc (.map es clock)).cx) At.here⟩
theorem app_zero {P : Program} (w : World) (t ty e g c : Nat) (A : Option Addr) (n2 c2 : Nat) (i : TypeInfo) (ht : P.underlying t = some (.slice e)) (hi : P.info? e = some i) (g2 : Nat) (hA : A = some ⟨g2, 0, none⟩) (hn : n2 = 0) :
    (Builtin.append_ #[t, t] ty #[.slice (some ⟨g, 0, none⟩) 0 c, .slice A n2 c2]).run P w = .ok (.slice (some ⟨g, 0, none⟩) 0 c) w := by
  subst hA hn
  simp [Builtin.append_, run_underlying ht, sizeOf, typeInfo, hi, Builtin.lenOf, Builtin.firstCells, loadCells, loadCellsFrom, storeCells]
set_option maxRecDepth 100000 in
set_option maxHeartbeats 2000000 in
theorem dk_waitClone {B : Nat} {w0 w : World} {m r : List Asr} {v : Value} {xs : List (Int × List Int)} (H : Cx B w0 w m) (k : At m (.own waitR v xs) r) (hl : xs.length < 1000000) :
    Calls Try.prog 40 #[v] w fun e w1 => ∃ A n c, e = .returned (.slice A n c) ∧ Cx B w0 w1 (.own waitR (.slice A n c) xs :: m) := by
  obtain ⟨A, c, rfl, hc, hx, hs⟩ := H.bigLen k
  have h65 := Try.underlying65
  have hrow := H.rowOf k
  have HH := Aside0.mk H
  have HR := Aside0.mk hrow
  have Hc := Cx.start w
  have hz := Cx.bigNil 69 129 wrC H
  cases A with
  | none =>
    have h0 : xs = [] := by
      rcases Nat.eq_zero_or_pos xs.length with h | h
      · exact List.eq_nil_of_length_eq_zero h
      · obtain ⟨g, e, _⟩ := hs h
        cases e
    subst h0
    clear H k hrow hs hx
    have heq : ∀ W : World, (binOp .eql 65 (.slice none 0 c) (.slice none 0 0)).run Try.prog W = .ok (.bool true) W := fun W => Lib.run_eql_slice_nil (P := Try.prog) W 65 69 none 0 c 0 0 h65
    go_enter Try.func40, Try.ntmps40
    go_wp2
    go_ret
    exact ⟨_, _, _, rfl, hz⟩
  | some a =>
    by_cases h0 : xs.length = 0
    · obtain ⟨g, rfl⟩ : ∃ g, a = ⟨g, 0, none⟩ := by
        obtain ⟨S, ⟨_, hown, _⟩, _⟩ := H.has k
        rcases hown.2 with ⟨e1, _⟩ | ⟨g, cap, cur, e1, _⟩
        · cases e1
        · injection e1 with e1 _ _
          injection e1 with e1
          exact ⟨g, e1⟩
      obtain rfl : xs = [] := List.eq_nil_of_length_eq_zero h0
      clear H k hz hs hx hrow h0
      obtain ⟨i, hi, _⟩ := Option.map_eq_some_iff.1 dk_info2
      have hap := fun w g' => app_zero (P := Try.prog) w 65 65 69 g' 0 (some ⟨g, 0, none⟩) 0 c i h65 hi g rfl rfl
      have heq : ∀ W : World, (binOp .eql 65 (.slice (some ⟨g, 0, none⟩) 0 c) (.slice none 0 0)).run Try.prog W = .ok (.bool false) W := fun W => Lib.run_eql_slice_nil (P := Try.prog) W 65 69 (some ⟨g, 0, none⟩) 0 c 0 0 h65
      simp only [List.length_nil]
      go_enter Try.func40, Try.ntmps40
      go_wp2_with ((with_reducible refine gate_builtin (b := .append) (xs := #[.tmp 5, .tmp 6]) rfl ?_); at_builtin; (apply Cx.atList); (focus ((repeat (with_reducible (first | exact (Hc).toS | exact At.here | apply At.there | apply CxS.drewN | apply CxS.drew | apply CxS.alloc | apply CxS.set | apply CxS.setRow))))); intro HT_; have HT2 := HT_.bigLit (e := 69) (size := 129) (enc := wrC) (cs := #[]) [] (by repeat (with_reducible (first | exact At.here | apply At.there))) (by simp) (fun _ h => by cases h) (by decide); refine wpList_append_run rfl (.tmp 5) (.tmp 6) 65 65 rfl _ _ _ rfl rfl (hap _ _) ?_; clear HT_)
      go_ret
      exact ⟨_, _, _, rfl, HH.out.join HT2⟩
    · clear H k hz
      obtain ⟨g, e, hg1, hg2, _⟩ := hs (by omega)
      injection e with e
      subst e
      clear hs hx
      have HN := Aside0.mk h0
      have heq : ∀ W : World, (binOp .eql 65 (.slice (some ⟨g, 0, none⟩) xs.length c) (.slice none 0 0)).run Try.prog W = .ok (.bool false) W := fun W => Lib.run_eql_slice_nil (P := Try.prog) W 65 69 (some ⟨g, 0, none⟩) xs.length c 0 0 h65
      go_enter Try.func40, Try.ntmps40
      go_wp2_with ((with_reducible refine gate_builtin (b := .append) (xs := #[.tmp 5, .tmp 6]) rfl ?_); at_builtin; (apply Cx.atList); (focus ((repeat (with_reducible (first | exact (Hc).toS | exact At.here | apply At.there | apply CxS.drewN | apply CxS.drew | apply CxS.alloc | apply CxS.set | apply CxS.setRow))))); intro HT_; have HT2 := HT_.bigLit (e := 69) (size := 129) (enc := wrC) (cs := #[]) [] (by repeat (with_reducible (first | exact At.here | apply At.there))) (by simp) (fun _ h => by cases h) (by decide); obtain ⟨g', c', w', hrun, H3⟩ := HT2.app_row At.here (P := Try.prog) 65 65 Try.underlying65 dk_info2 (by simp [Value.cells, wrC, sz0]) (by decide) (by decide) (HR.out.below HT_.bel) (fun h => absurd h HN.out) (fun y _ => wrC_one y) (by simp; omega); rw [List.nil_append] at hrun H3; refine wpList_append_run rfl (.tmp 5) (.tmp 6) 65 65 rfl _ _ _ rfl rfl hrun ?_; clear hrun HT_ HT2)
      go_ret
      exact ⟨_, _, _, rfl, HH.out.join H3⟩
theorem dk_four {a b c d e f g : Value} {j : Nat} {v : Value} (h : [a, b, c, d][j]? = some v) : (#[a, b, c, d, e, f, g] : Array Value)[j]? = some v := by
  rcases j with _ | _ | _ | _ | j <;> first | exact h | (simp at h)
set_option maxRecDepth 100000 in
theorem dk_build7 (st lf sz : Int) (ar gn : Bool) (M : Nat) (A : Option Addr) (n c : Nat) (W : World) : (Instr.build 67 #[(0, .agg #[.int .i64 st, .int .i64 lf, .bool ar, .bool gn]), (1, .int .i64 sz), (2, .map (some M)), (3, .slice A n c)]).run Try.prog W = .ok (.agg #[.int .i64 st, .int .i64 lf, .bool ar, .bool gn, .int .i64 sz, .map (some M), .slice A n c]) W := by
  refine run_build W _ _ _ ?_
  have hi0 : (Try.prog.info? 67).map (fun i => i.zero) = some (some (.agg #[.int .i64 0, .int .i64 0, .bool false, .bool false, .int .i64 0, .map none, .slice none 0 0])) := by kernel_rfl
  obtain ⟨it, hi, hz⟩ := Option.map_eq_some_iff.1 hi0
  have hp : (match Try.prog.underlying 67 with | some (.struct fields) => fields.toList.mapM (fun f => (Try.prog.info? f.type).map fun i => (f.offset, i.size)) | _ => none) = some [(0, 4), (4, 1), (5, 1), (6, 1)] := by kernel_rfl
  unfold Program.built
  simp only [hi, Try.underlying67, hz] at hp ⊢
  rw [hp]
  simp only [Value.cells]
  rw [fill_cons (off := 0) (size := 4) (by rfl) (by rfl) (by simp), fill_cons (off := 4) (size := 1) (by rfl) (by rfl) (by simp [putAt, Value.cells]), fill_cons (off := 5) (size := 1) (by rfl) (by rfl) (by simp [putAt, Value.cells]), fill_cons (off := 6) (size := 1) (by rfl) (by rfl) (by simp [putAt, Value.cells])]
  unfold Instr.fill
  simp [putAt, Value.cells]
theorem pw_info : (Try.prog.info? 64).map (·.size) = some 4 := by kernel_rfl
set_option maxRecDepth 100000 in
set_option maxHeartbeats 4000000 in
theorem dk_copy {B : Nat} {w0 w : World} {m r : List Asr} {v : Value} {d : Dk} (H : Cx B w0 w m) (k : At m (.own dkR v d) r) (hl : d.waiting.length < 1000000) :
    Calls Try.prog 27 #[v] w fun e w1 => ∃ b2, e = .returned (.pointer (some ⟨b2, 0, none⟩)) ∧ Cx B w0 w1 (.own dkR (.pointer (some ⟨b2, 0, none⟩)) d :: .own dkR v d :: r) := by
  have h26 := Try.underlying26
  have h64 := Try.underlying64
  obtain ⟨b, A, W, rfl, HWF, H0⟩ := H.openDk k
  obtain ⟨bm, rfl⟩ := H0.mapped (x := (d.cnt, d.sure)) (by repeat (with_reducible (first | exact At.here | apply At.there)))
  obtain ⟨A2, c2, rfl, _⟩ := H0.bigLen (xs := d.waiting) (by repeat (with_reducible (first | exact At.here | apply At.there)))
  have HL := Aside0.mk hl
  clear H k hl
  go_enter Try.func27, Try.ntmps27
  go_wp2_with fail
  have Hx := (H0.toS.drew).cx
  clear H0
  refine wp_region_held_drew (S := fun W => W.heap[b]? = some (.cells #[.int .i64 d.steps, .int .i64 d.left, .bool d.armed, .bool d.gone, .int .i64 d.size, .map (some bm), .slice A2 d.waiting.length c2] 67 (0, 0))) (by kernel_rfl) (Hx.blk (by repeat (with_reducible (first | exact At.here | apply At.there)))) (fun hH_ => ?_)
  (refine wpAnyH_take (i := 0) (v := ?_) rfl (by kernel_rfl) (by kernel_rfl) (by kernel_rfl) (fun _ _ _ h => h) (Or.inl ⟨by rfl, ?_⟩) hH_ ?_; rotate_left; (focus (intro w_ hSw_; go_simp; try (with_reducible rfl))); simp only [List.getElem_toArray, List.getElem_cons_succ, List.getElem_cons_zero, Act.put, List.setIfInBounds_toArray, List.set_cons_zero, List.set_cons_succ])
  (refine wpAnyH_take (i := 1) (v := ?_) rfl (by kernel_rfl) (by kernel_rfl) (by kernel_rfl) (fun _ _ _ h => h) (Or.inl ⟨by rfl, ?_⟩) hH_ ?_; rotate_left; (focus (intro w_ hSw_; go_simp; try (with_reducible rfl))); simp only [List.getElem_toArray, List.getElem_cons_succ, List.getElem_cons_zero, Act.put, List.setIfInBounds_toArray, List.set_cons_zero, List.set_cons_succ])
  (refine wpAnyH_take (i := 2) (v := ?_) rfl (by kernel_rfl) (by kernel_rfl) (by kernel_rfl) (fun _ _ _ h => h) (Or.inl ⟨by rfl, ?_⟩) hH_ ?_; rotate_left; (focus (intro w_ hSw_; go_simp; try (with_reducible rfl))); simp only [List.getElem_toArray, List.getElem_cons_succ, List.getElem_cons_zero, Act.put, List.setIfInBounds_toArray, List.set_cons_zero, List.set_cons_succ])
  (refine wpAnyH_take (i := 3) rfl (by kernel_rfl) (by kernel_rfl) (by kernel_rfl) (fun _ _ _ h => h) (yieldsIf_load_mid (by rfl) 64 (.tmp 7) rfl (b) (0) rfl ([.int .i64 d.steps, .int .i64 d.left, .bool d.armed, .bool d.gone]) _ (fun W h => (fun j v hv => (cell_of h _).trans (by rw [Nat.zero_add]; exact dk_four hv))) Try.underlying64 rfl (pw_info)) hH_ ?_; simp only [List.getElem_toArray, List.getElem_cons_succ, List.getElem_cons_zero, Act.put, List.setIfInBounds_toArray, List.set_cons_zero, List.set_cons_succ])
  (refine wpAnyH_take (i := 4) (v := ?_) rfl (by kernel_rfl) (by kernel_rfl) (by kernel_rfl) (fun _ _ _ h => h) (Or.inl ⟨by rfl, ?_⟩) hH_ ?_; rotate_left; (focus (intro w_ hSw_; go_simp; try (with_reducible rfl))); simp only [List.getElem_toArray, List.getElem_cons_succ, List.getElem_cons_zero, Act.put, List.setIfInBounds_toArray, List.set_cons_zero, List.set_cons_succ])
  (refine wpAnyH_take (i := 5) (v := ?_) rfl (by kernel_rfl) (by kernel_rfl) (by kernel_rfl) (fun _ _ _ h => h) (Or.inl ⟨by rfl, ?_⟩) hH_ ?_; rotate_left; (focus (intro w_ hSw_; go_simp; try (with_reducible rfl))); simp only [List.getElem_toArray, List.getElem_cons_succ, List.getElem_cons_zero, Act.put, List.setIfInBounds_toArray, List.set_cons_zero, List.set_cons_succ])
  (refine wpAnyH_take (i := 6) (v := ?_) rfl (by kernel_rfl) (by kernel_rfl) (by kernel_rfl) (fun _ _ _ h => h) (Or.inl ⟨by rfl, ?_⟩) hH_ ?_; rotate_left; (focus (intro w_ hSw_; go_simp; try (with_reducible rfl))); simp only [List.getElem_toArray, List.getElem_cons_succ, List.getElem_cons_zero, Act.put, List.setIfInBounds_toArray, List.set_cons_zero, List.set_cons_succ])
  (refine wpAnyH_take (i := 7) rfl (by kernel_rfl) (by kernel_rfl) (by kernel_rfl) (fun _ _ _ h => h) (yieldsIf_load_cell (by rfl) 3 (.tmp 11) rfl (b) (4) rfl (.int .i64 d.size) (run_isAgg_plain Try.underlying3 rfl) (fun W h => (cell_of h 4).trans rfl)) hH_ ?_; simp only [List.getElem_toArray, List.getElem_cons_succ, List.getElem_cons_zero, Act.put, List.setIfInBounds_toArray, List.set_cons_zero, List.set_cons_succ])
  (refine wpAnyH_take (i := 8) (v := ?_) rfl (by kernel_rfl) (by kernel_rfl) (by kernel_rfl) (fun _ _ _ h => h) (Or.inl ⟨by rfl, ?_⟩) hH_ ?_; rotate_left; (focus (intro w_ hSw_; go_simp; try (with_reducible rfl))); simp only [List.getElem_toArray, List.getElem_cons_succ, List.getElem_cons_zero, Act.put, List.setIfInBounds_toArray, List.set_cons_zero, List.set_cons_succ])
  (refine wpAnyH_take (i := 9) (v := ?_) rfl (by kernel_rfl) (by kernel_rfl) (by kernel_rfl) (fun _ _ _ h => h) (Or.inl ⟨by rfl, ?_⟩) hH_ ?_; rotate_left; (focus (intro w_ hSw_; go_simp; try (with_reducible rfl))); simp only [List.getElem_toArray, List.getElem_cons_succ, List.getElem_cons_zero, Act.put, List.setIfInBounds_toArray, List.set_cons_zero, List.set_cons_succ])
  (refine wpAnyH_take (i := 10) (v := ?_) rfl (by kernel_rfl) (by kernel_rfl) (by kernel_rfl) (fun _ _ _ h => h) (Or.inl ⟨by rfl, ?_⟩) hH_ ?_; rotate_left; (focus (intro w_ hSw_; go_simp; try (with_reducible rfl))); simp only [List.getElem_toArray, List.getElem_cons_succ, List.getElem_cons_zero, Act.put, List.setIfInBounds_toArray, List.set_cons_zero, List.set_cons_succ])
  (refine wpAnyH_take (i := 11) rfl (by kernel_rfl) (by kernel_rfl) (by kernel_rfl) (fun _ _ _ h => h) (yieldsIf_load_cell (by rfl) 62 (.tmp 15) rfl (b) (5) rfl (.map (some bm)) (run_isAgg_plain Try.underlying62 rfl) (fun W h => (cell_of h 5).trans rfl)) hH_ ?_; simp only [List.getElem_toArray, List.getElem_cons_succ, List.getElem_cons_zero, Act.put, List.setIfInBounds_toArray, List.set_cons_zero, List.set_cons_succ])
  (refine wpAnyH_take (i := 13) (v := ?_) rfl (by kernel_rfl) (by kernel_rfl) (by kernel_rfl) (fun _ _ _ h => h) (Or.inl ⟨by rfl, ?_⟩) hH_ ?_; rotate_left; (focus (intro w_ hSw_; go_simp; try (with_reducible rfl))); simp only [List.getElem_toArray, List.getElem_cons_succ, List.getElem_cons_zero, Act.put, List.setIfInBounds_toArray, List.set_cons_zero, List.set_cons_succ])
  (refine wpAnyH_take (i := 14) (v := ?_) rfl (by kernel_rfl) (by kernel_rfl) (by kernel_rfl) (fun _ _ _ h => h) (Or.inl ⟨by rfl, ?_⟩) hH_ ?_; rotate_left; (focus (intro w_ hSw_; go_simp; try (with_reducible rfl))); simp only [List.getElem_toArray, List.getElem_cons_succ, List.getElem_cons_zero, Act.put, List.setIfInBounds_toArray, List.set_cons_zero, List.set_cons_succ])
  (refine wpAnyH_take (i := 15) (v := ?_) rfl (by kernel_rfl) (by kernel_rfl) (by kernel_rfl) (fun _ _ _ h => h) (Or.inl ⟨by rfl, ?_⟩) hH_ ?_; rotate_left; (focus (intro w_ hSw_; go_simp; try (with_reducible rfl))); simp only [List.getElem_toArray, List.getElem_cons_succ, List.getElem_cons_zero, Act.put, List.setIfInBounds_toArray, List.set_cons_zero, List.set_cons_succ])
  (refine wpAnyH_take (i := 16) rfl (by kernel_rfl) (by kernel_rfl) (by kernel_rfl) (fun _ _ _ h => h) (yieldsIf_load_cell (by rfl) 65 (.tmp 20) rfl (b) (6) rfl (.slice A2 d.waiting.length c2) (run_isAgg_plain Try.underlying65 rfl) (fun W h => (cell_of h 6).trans rfl)) hH_ ?_; simp only [List.getElem_toArray, List.getElem_cons_succ, List.getElem_cons_zero, Act.put, List.setIfInBounds_toArray, List.set_cons_zero, List.set_cons_succ])
  (refine wpAnyH_ready (rs := [12]) (by kernel_rfl) (by simp) ?_; refine AllReadyH.cons rfl (fun K hK => ?_) AllReadyH.nil; go_simp; go_at_call 39; refine (dk_mapClone Hx (At.there At.here)).mono ?_; rintro e w' ⟨b2, rfl, HM⟩; clear Hx; (try go_simp); refine hK.out _ _ (HM.blk (At.there At.here)) (fun hH2_ => ?_); clear hK K hH_; have hH_ := hH2_; clear hH2_; try simp only [List.getElem_toArray, List.getElem_cons_succ, List.getElem_cons_zero, Act.put, List.setIfInBounds_toArray, List.set_cons_zero, List.set_cons_succ])
  (refine wpAnyH_ready (rs := [17]) (by kernel_rfl) (by simp) ?_; refine AllReadyH.cons rfl (fun K hK => ?_) AllReadyH.nil; go_simp; go_at_call 40; refine (dk_waitClone HM (xs := d.waiting) (At.there (At.there (At.there At.here))) HL.out).mono ?_; rintro e w' ⟨A3, n3, c3, rfl, Hy⟩; clear HM; (try go_simp); refine hK.out _ _ (Hy.blk (At.there (At.there At.here))) (fun hH2_ => ?_); clear hK K hH_; have hH_ := hH2_; clear hH2_; try simp only [List.getElem_toArray, List.getElem_cons_succ, List.getElem_cons_zero, Act.put, List.setIfInBounds_toArray, List.set_cons_zero, List.set_cons_succ])
  (refine wpAnyH_take (i := 18) (v := .agg #[.int .i64 d.steps, .int .i64 d.left, .bool d.armed, .bool d.gone, .int .i64 d.size, .map (some b2), .slice A3 n3 c3]) rfl (by kernel_rfl) (by kernel_rfl) (by kernel_rfl) (fun _ _ _ h => h) (Or.inl ⟨by rfl, fun W _ => exec_build 67 #[(0, .tmp 8), (1, .tmp 12), (2, .tmp 17), (3, .tmp 22)] rfl #[(0, .agg #[.int .i64 d.steps, .int .i64 d.left, .bool d.armed, .bool d.gone]), (1, .int .i64 d.size), (2, .map (some b2)), (3, .slice A3 n3 c3)] rfl (dk_build7 _ _ _ _ _ _ _ _ _ W)⟩) hH_ ?_; simp only [List.getElem_toArray, List.getElem_cons_succ, List.getElem_cons_zero, Act.put, List.setIfInBounds_toArray, List.set_cons_zero, List.set_cons_succ])
  obtain ⟨g, hg⟩ : ∃ g, g = w'.heap.size := ⟨_, rfl⟩
  (refine wpAnyH_ready (rs := [19]) (by kernel_rfl) (by simp) ?_; refine AllReadyH.cons rfl (fun K hK => ?_) AllReadyH.nil; have F := (Hy).facts; simp only [factsOf, Asr.facts, blkFacts, cellsAre, List.toList_toArray, forall_const, Nat.zero_add, Nat.reduceAdd, and_true, true_and] at F; go_simp; refine Cx.genP (C := K _) (by (repeat (with_reducible (first | exact (Hy).toS | exact At.here | apply At.there | apply CxS.drewN | apply CxS.drew | apply CxS.alloc | apply CxS.set | apply CxS.setRow)))) (fun Wn Hn => ?_); clear F Hy; have Hy := Hn; clear Hn; (try simp only [List.setIfInBounds_toArray, List.set_cons_zero, List.set_cons_succ] at Hy); refine hK.out _ _ (Hy.blk (b := b) (by repeat (with_reducible (first | exact At.here | apply At.there)))) (fun hH2_ => ?_); clear hK K hH_; have hH_ := hH2_; clear hH2_; try simp only [List.getElem_toArray, List.getElem_cons_succ, List.getElem_cons_zero, Act.put, List.setIfInBounds_toArray, List.set_cons_zero, List.set_cons_succ])
  rw [← hg] at Hy ⊢
  clear hg
  (refine wpAnyH_take (i := 20) (v := ?_) rfl (by kernel_rfl) (by kernel_rfl) (by kernel_rfl) (fun _ _ _ h => h) (Or.inl ⟨by rfl, ?_⟩) hH_ ?_; rotate_left; (focus (intro w_ hSw_; go_simp; try (with_reducible rfl))); simp only [List.getElem_toArray, List.getElem_cons_succ, List.getElem_cons_zero, Act.put, List.setIfInBounds_toArray, List.set_cons_zero, List.set_cons_succ])
  refine wpAnyH_done (by kernel_rfl) ?_ _
  clear hH_
  go_wp2
  ((try simp only [Exit.inBlock, Exit.then]); (apply Cx.atPost); (focus ((repeat (with_reducible (first | exact (Hy).toS | exact At.here | apply At.there | apply CxS.drewN | apply CxS.drew | apply CxS.alloc | apply CxS.set | apply CxS.setRow))))); intro HT)
  go_ret
  have H2 := HT.closeDk (b := b) d (by repeat (with_reducible (first | exact At.here | apply At.there))) (by repeat (with_reducible (first | exact At.here | apply At.there))) (by repeat (with_reducible (first | exact At.here | apply At.there))) HWF.out
  exact ⟨_, rfl, H2.closeDk (b := g) d (by repeat (with_reducible (first | exact At.here | apply At.there))) (by repeat (with_reducible (first | exact At.here | apply At.there))) (by repeat (with_reducible (first | exact At.here | apply At.there))) HWF.out⟩

-- AUX DKN
theorem u8A_set_ (s : List Int) (i : Nat) (y : Int) : (u8A s).setIfInBounds i (.int .u8 y) = u8A (s.set i y) := by simp [u8A]
def filled (b : Int) (i : Nat) : List Int := List.replicate i b ++ List.replicate (128 - i) 0
theorem filled_len (b : Int) (i : Nat) (h : i ≤ 128) : (filled b i).length = 128 := by simp [filled]; omega
theorem filled_set (b : Int) (i : Nat) (h : i < 128) : (filled b i).set i b = filled b (i + 1) := by
  unfold filled
  rw [List.set_append, if_neg (by simp), List.length_replicate, Nat.sub_self, show 128 - i = (128 - (i + 1)) + 1 by omega, List.replicate_succ, List.set_cons_zero, List.replicate_succ', List.append_assoc]
  rfl
def fullS (b : Int) : List Int := List.replicate 128 b
theorem fullS_len (b : Int) : (fullS b).length = 128 := by simp [fullS]
theorem filled_all (b : Int) : filled b 128 = fullS b := by simp [filled, fullS]
set_option maxRecDepth 100000 in
set_option maxHeartbeats 2000000 in
theorem dk_full (b : Int) (w : World) : Calls Try.prog 13 #[.int .u8 b] w fun e w1 => e = .returned (.agg (u8A (fullS b))) ∧ Below w.heap.size w w1 := by
  have hz := dk_zero
  have H0 := Cx.start w
  have F : True := trivial
  go_enter Try.func13, Try.ntmps13
  go_wp2_with ((((with_reducible refine gate_store (t := 34) (x := .tmp 3) (y := .tmp 5) rfl ?_); (apply Cx.atList); (focus ((repeat (with_reducible (first | exact (H0).toS | exact At.here | apply At.there | apply CxS.drewN | apply CxS.drew | apply CxS.alloc | apply CxS.set | apply CxS.setRow))))); intro HT_; refine wpList_store_row rfl 34 (.tmp 3) (.tmp 5) rfl (w.heap.size + 1) (u8A sz0) rfl rfl _ _ (HT_.blk (by repeat (with_reducible (first | exact At.here | apply At.there)))) (dk_isz sz0_len) (rfl) (u8A_one _) ?_; clear HT_); clear F; (apply Cx.genList); (focus ((repeat (with_reducible (first | exact (H0).toS | exact At.here | apply At.there | apply CxS.drewN | apply CxS.drew | apply CxS.alloc | apply CxS.set | apply CxS.setRow))))); clear H0; intro w1 H1; have F := (H1).facts; simp only [factsOf, Asr.facts, blkFacts, cellsAre, List.toList_toArray, forall_const, Nat.zero_add, Nat.reduceAdd, and_true, true_and] at F))
  clear F
  go_loopw [6] (fun v6 wr => ∃ i : Nat, i ≤ 128 ∧ v6 = .int .i64 i ∧ Cx w.heap.size w wr [.blk (w.heap.size + 1) (.cells (u8A (filled b i)) 34 (0, 0)), .blk w.heap.size (.cells (u8A sz0) 34 (0, 0))]) (fun v6 _ => 128 - (intOf v6).toNat)
  case atStart => exact ⟨0, by omega, rfl, by simpa [filled, sz0] using H1⟩
  case round =>
    clear H1
    obtain ⟨i, hi, rfl, H2⟩ := hrel
    have hbk := H2.blk (b := w.heap.size + 1) (o := .cells (u8A (filled b i)) 34 (0, 0)) (by repeat (with_reducible (first | exact At.here | apply At.there)))
    have HBK := Aside0.mk hbk
    by_cases hlt : i < 128
    · have ci : wr.cell? ⟨w.heap.size + 1, i, none⟩ = some (.int .u8 ((filled b i)[i]'(by rw [filled_len _ _ hi]; exact hlt))) := by
        rw [cell_of hbk, u8A, List.getElem?_toArray, List.getElem?_map, List.getElem?_eq_getElem (by rw [filled_len _ _ hi]; exact hlt)]
        rfl
      have fi := frozen_of hbk i
      have h0 : (0 : Int) ≤ (i : Int) := by omega
      have h1 : (i : Int) < 128 := by omega
      clear hbk
      go_wp2
      refine ⟨⟨i + 1, by omega, by go_num, ?_⟩, by simp [intOf]; omega⟩
      have H3 := (H2.toS.set (b := w.heap.size + 1) (cs := u8A (filled b i)) (by repeat (with_reducible (first | exact At.here | apply At.there))) i (.int .u8 b)).cx
      rw [u8A_set_, filled_set b i hlt] at H3
      exact H3
    · obtain rfl : i = 128 := by omega
      rw [filled_all] at H2 HBK
      clear hbk
      have F : True := trivial
      go_wp2_with (first | ((with_reducible refine gate_load (t := 34) (x := .tmp 3) rfl ?_); (apply Cx.atList); (focus ((repeat (with_reducible (first | exact (H2).toS | exact At.here | apply At.there | apply CxS.drewN | apply CxS.drew | apply CxS.alloc | apply CxS.set | apply CxS.setRow))))); intro HT_; refine wpList_load_row rfl 34 (.tmp 3) rfl (w.heap.size + 1) rfl _ (u8A (fullS b)) _ _ (HT_.blk (by repeat (with_reducible (first | exact At.here | apply At.there)))) Try.underlying34 rfl (dk_isz (fullS_len b)) ?_; clear HT_) | (((with_reducible refine gate_store (t := 34) (x := .tmp 2) (y := .tmp 13) rfl ?_); (apply Cx.atList); (focus ((repeat (with_reducible (first | exact (H2).toS | exact At.here | apply At.there | apply CxS.drewN | apply CxS.drew | apply CxS.alloc | apply CxS.set | apply CxS.setRow))))); intro HT_; refine wpList_store_row rfl 34 (.tmp 2) (.tmp 13) rfl (w.heap.size) (u8A (fullS b)) rfl rfl _ _ (HT_.blk (by repeat (with_reducible (first | exact At.here | apply At.there)))) (dk_isz (fullS_len b)) (by rw [u8A_size, u8A_size, sz0_len, fullS_len]) (u8A_one _) ?_; clear HT_); clear F; (apply Cx.genList); (focus ((repeat (with_reducible (first | exact (H2).toS | exact At.here | apply At.there | apply CxS.drewN | apply CxS.drew | apply CxS.alloc | apply CxS.set | apply CxS.setRow))))); clear H2; intro w3 H3; have F := (H3).facts; simp only [factsOf, Asr.facts, blkFacts, cellsAre, List.toList_toArray, forall_const, Nat.zero_add, Nat.reduceAdd, and_true, true_and] at F))
      ((try simp only [Exit.inBlock, Exit.then]); (apply Cx.atPost); (focus ((repeat (with_reducible (first | exact (H3).toS | exact At.here | apply At.there | apply CxS.drewN | apply CxS.drew | apply CxS.alloc | apply CxS.set | apply CxS.setRow))))); intro HT)
      exact bodyPost_ret (results_cell_row rfl _ _ w.heap.size _ (u8A (fullS b)) (0, 0) _ rfl (HT.blk (by repeat (with_reducible (first | exact At.here | apply At.there)))) Try.underlying34 rfl (dk_isz (fullS_len b))) rfl ⟨by first | rfl | trivial, HT.bel⟩

-- AUX RC
/-- The writes that are kept, of the first k. -/
def keptL (kp : Nat → Bool) (ws : List (Int × List Int)) : Nat → List (Int × List Int)
  | 0 => []
  | k + 1 => if kp k = true then keptL kp ws k ++ [ws.getD k (0, sz0)] else keptL kp ws k
theorem keptL_mem {kp : Nat → Bool} {ws : List (Int × List Int)} : ∀ {k : Nat}, k ≤ ws.length → ∀ p ∈ keptL kp ws k, p ∈ ws
  | 0, _, p, h => by cases h
  | k + 1, hk, p, h => by
    unfold keptL at h
    split at h
    · rcases List.mem_append.1 h with h | h
      · exact keptL_mem (by omega) p h
      · rw [List.mem_singleton] at h
        subst h
        rw [List.getD_eq_getElem?_getD, List.getElem?_eq_getElem (by omega), Option.getD_some]
        exact List.getElem_mem _
    · exact keptL_mem (by omega) p h
theorem keptL_len {kp : Nat → Bool} {ws : List (Int × List Int)} : ∀ k, (keptL kp ws k).length ≤ k
  | 0 => Nat.le_refl _
  | k + 1 => by
    have := keptL_len (kp := kp) (ws := ws) k
    unfold keptL
    split
    · rw [List.length_append]; simp; omega
    · omega
theorem gate_bs {P : Program} {w : World} {ops : Array Oper} {rest : List Oper} {o : Oper} {a : Act} {Q : Exit → Act → World → Prop} {t : TypeId} {n : Nat} {ps : Array (Nat × Operand)} (_ho : o.op = .buildSlice t n ps) (h : wpList P ops Q (o :: rest) a w) : wpList P ops Q (o :: rest) a w := h
set_option maxRecDepth 100000 in
set_option maxHeartbeats 8000000 in
theorem rf_crash {B : Nat} {w0 w : World} {m : List Asr} (x : Rf) (g1 n1 c1 : Nat) (A2 : Option Addr) (n2 c2 : Nat) (A0 : Option Addr) (N c : Nat) (l : List Bool) (H : Cx B w0 w m) (h1 : rowAt 128 secE w (some ⟨g1, 0, none⟩) n1 c1 x.secs) (h2 : rowAt 129 wrC w A2 n2 c2 x.waiting) (hkeep : Kd.C Kd.bool w A0 N l)
    (hin : ∀ p ∈ x.waiting, 0 ≤ p.1 ∧ p.1 < n1) (hl1 : 0 < n1 ∧ n1 ≤ 100000) (hl2 : n2 ≤ 100000) :
    Calls Try.prog 36 #[.agg (rfC (some ⟨g1, 0, none⟩) n1 c1 A2 n2 c2 x.steps x.left x.armed x.gone), .slice A0 N c] w fun e w1 => ∃ g c, e = .returned (.agg (rfC (some ⟨g, 0, none⟩) n1 c none 0 0 x.steps x.left false false)) ∧ Cx B w0 w1 (.own secsR (.slice (some ⟨g, 0, none⟩) n1 c) (doneL x.secs (keptL (keepB l) x.waiting n2)) :: m) := by
  have Hc := Cx.start w
  have hu := Try.underlying50
  have HH := Aside0.mk H
  have HR1 := Aside0.mk h1
  have HR2 := Aside0.mk h2
  have HI := Aside0.mk hin
  have HK := Aside0.mk hkeep
  have HL := Aside0.mk (And.intro hl1 hl2)
  have hkn := hkeep.1
  have HN2 := Aside0.mk h2.1
  have hn2b : n2 ≤ 100000 := hl2
  clear H h1 h2 hin hl1 hl2 hkeep
  go_enter Try.func36, Try.ntmps36
  go_wp2_with fail
  have H3 := ((Hc.toS.alloc (.cells (rfC (some ⟨g1, 0, none⟩) n1 c1 A2 n2 c2 x.steps x.left x.armed x.gone) 50 (0, 0))).alloc (.cells (rfC none 0 0 none 0 0 0 0 false false) 50 (0, 0))).cx.bigNil 87 129 wrC
  clear Hc
  go_loopw [5, 6] (fun v5 v6 wr => ∃ (k : Nat) (A3 : Option Addr) (n3 c3 : Nat), k ≤ n2 ∧ v6 = .int .i64 k ∧ v5 = .slice A3 n3 c3 ∧ Aside0 ((n3 = 0 → A3 = none ∧ c3 = 0) ∧ n3 = (keptL (keepB l) x.waiting k).length) ∧ Cx w.heap.size w wr [.own rwaitR (.slice A3 n3 c3) (keptL (keepB l) x.waiting k), .blk (w.heap.size + 1) (.cells (rfC none 0 0 none 0 0 0 0 false false) 50 (0, 0)), .blk w.heap.size (.cells (rfC (some ⟨g1, 0, none⟩) n1 c1 A2 n2 c2 x.steps x.left x.armed x.gone) 50 (0, 0))]) (fun _ v6 _ => n2 - (intOf v6).toNat)
  case atStart => exact ⟨0, none, 0, 0, by omega, rfl, rfl, ⟨fun _ => ⟨rfl, rfl⟩, rfl⟩, H3⟩
  case round =>
    clear H3
    obtain ⟨k, A3, n3, c3, hk, rfl, rfl, HN3, H4⟩ := hrel
    have k0 : (0 : Int) ≤ (k : Int) := by omega
    have HKB := Kd.C_below HK.out H4.bel
    have F := (H4).facts; simp only [factsOf, Asr.facts, blkFacts, cellsAre, List.toList_toArray, forall_const, Nat.zero_add, Nat.reduceAdd, and_true, true_and] at F
    by_cases hlt : k < n2
    · have k1 : (k : Int) < (n2 : Int) := by omega
      by_cases hkn2 : k < N
      · obtain ⟨ad, e, hb⟩ := Kd.at_bool HKB (k : Int) (by omega) (by omega)
        subst e
        rw [Int.toNat_natCast, show rdOf false l (k : Int) = keepB l k by simp [rdOf, keepB]] at hb
        have hk2 : (k : Int) < (N : Int) := by omega
        clear HKB hkn2
        cases hkp : keepB l k
        · rw [hkp] at hb
          go_wp2
          refine ⟨⟨k + 1, A3, n3, c3, by omega, by go_num, rfl, ?_, ?_⟩, by simp [intOf]; omega⟩
          · exact ⟨HN3.out.1, by rw [show keptL (keepB l) x.waiting (k + 1) = keptL (keepB l) x.waiting k by simp [keptL, hkp]]; exact HN3.out.2⟩
          · rw [show keptL (keepB l) x.waiting (k + 1) = keptL (keepB l) x.waiting k by simp [keptL, hkp]]; exact H4
        · rw [hkp] at hb
          obtain ⟨p, hp⟩ : ∃ p, x.waiting[k]? = some p := ⟨_, List.getElem?_eq_getElem (by have := HN2.out; omega)⟩
          have HRB := HR2.out.below H4.bel
          obtain ⟨g2, rfl, hr⟩ := HRB.2.2.2 k p hp
          have hpl : (wrC p).length = 129 := HRB.2.2.1 p (List.mem_of_getElem? hp)
          have hp2 : p.2.length = 128 := by simpa [wrC] using hpl
          have HPL := Aside0.mk hpl
          have HP2 := Aside0.mk hp2
          have HKS : Aside0 (keptL (keepB l) x.waiting (k + 1) = keptL (keepB l) x.waiting k ++ [p]) := ⟨by simp [keptL, hkp, List.getD_eq_getElem?_getD, hp]⟩
          have hbs := fun W => rf_slice1 p hp2 W
          have hlk := keptL_len (kp := keepB l) (ws := x.waiting) k
          have HLK := Aside0.mk hlk
          clear hpl hp2 hp HRB hlk
          go_wp2_with (first
            | ((with_reducible refine gate_load (t := 87) (x := .tmp 28) rfl ?_); refine wpList_load_mid rfl 87 (.tmp 28) rfl (g2) (k * 129) rfl (wrC p) _ (hr) Try.underlying87 rfl (by rw [HPL.out]; kernel_rfl) ?_)
            | ((with_reducible refine gate_bs (t := 48) (n := 1) rfl ?_); refine wpList_exec_value rfl (exec_buildSlice 48 1 #[(0, .tmp 29)] rfl #[(0, .agg (wrC p).toArray)] rfl (hbs _)) ?_)
            | ((with_reducible refine gate_builtin (b := .append) (xs := #[.tmp 24, .tmp 30]) rfl ?_); at_builtin; (apply Cx.atList); (focus ((repeat (with_reducible (first | exact (H4).toS | exact At.here | apply At.there | apply CxS.drewN | apply CxS.drew | apply CxS.alloc | apply CxS.set | apply CxS.setRow))))); intro HT_; obtain ⟨v', w', hrun, hiff, H5⟩ := HT_.app_big (e := 87) (size := 129) (enc := wrC) (v := .slice A3 n3 c3) (xs := keptL (keepB l) x.waiting k) (by repeat (with_reducible (first | exact At.here | apply At.there))) (P := Try.prog) 48 48 Try.underlying48 wr_info2 (by simp [Value.cells, wrC, sz0]) (by decide) (by decide) [p] ⟨wr.heap.size, 0, none⟩ 1 1 rfl (fun y hy => by rw [List.mem_singleton] at hy; subst hy; exact HPL.out) (row_news (rowAt_one (HT_.blk (b := wr.heap.size) (o := .cells (wrC p).toArray 87 (0, 0)) (by repeat (with_reducible (first | exact At.here | apply At.there)))) HPL.out)) (by rw [List.flatMap_singleton]; exact wrC_one p) (by have := HLK.out; have := HL.out; simp; omega); refine wpList_append_run rfl (.tmp 24) (.tmp 30) 48 48 rfl _ _ _ rfl rfl hrun ?_; clear hrun HT_))
          obtain ⟨A4, c4, rfl, _, _, hsome⟩ := H5.bigLen At.here
          rw [← HKS.out] at H5 hsome ⊢
          refine ⟨⟨k + 1, A4, _, c4, by omega, by go_num, rfl, ⟨fun h => ?_, rfl⟩, ?_⟩, by simp [intOf]; omega⟩
          · rw [HKS.out, List.length_append] at h; simp at h
          · exact (H5.drop (a := .blk wr.heap.size (.cells (wrC p).toArray 87 (0, 0))) (by repeat (with_reducible (first | exact At.here | apply At.there))))
      · have hk2 : ¬ (k : Int) < (N : Int) := by omega
        have hkp : keepB l k = false := by simp [keepB, List.getElem?_eq_none (show l.length ≤ k by omega)]
        have HKS : Aside0 (keptL (keepB l) x.waiting (k + 1) = keptL (keepB l) x.waiting k) := ⟨by simp [keptL, hkp]⟩
        clear hkp HKB hkn2
        go_wp2
        refine ⟨⟨k + 1, A3, n3, c3, by omega, by go_num, rfl, ?_, ?_⟩, by simp [intOf]; omega⟩
        · exact ⟨HN3.out.1, by rw [HKS.out]; exact HN3.out.2⟩
        · rw [HKS.out]; exact H4
    · obtain rfl : k = n2 := by omega
      have hlk := keptL_len (kp := keepB l) (ws := x.waiting) k
      have HLK := Aside0.mk hlk
      have HMEM : Aside0 (∀ p ∈ keptL (keepB l) x.waiting k, 0 ≤ p.1 ∧ p.1 < n1) := ⟨fun p hp => HI.out p (keptL_mem (by have := HN2.out; omega) p hp)⟩
      clear hlk HKB
      go_wp2_with fail
      refine (rf_done g1 n1 c1 A3 n3 c3 x.secs _ H4 (HR1.out.below H4.bel) (H4.rowOf At.here) HMEM.out HL.out.1 (by have := HLK.out; have := HN3.out.2; have := HL.out.2; omega)).mono ?_
      rintro e we ⟨g, c, rfl, H5⟩
      clear F
      have H6 := H5.find (a := .blk w.heap.size (.cells (rfC (some ⟨g1, 0, none⟩) n1 c1 A2 k c2 x.steps x.left x.armed x.gone) 50 (0, 0))) (by repeat (with_reducible (first | exact At.here | apply At.there)))
      have H7 := H6.find (a := .blk (w.heap.size + 1) (.cells (rfC none 0 0 none 0 0 0 0 false false) 50 (0, 0))) (by repeat (with_reducible (first | exact At.here | apply At.there)))
      clear H5 H6
      have F := (H7).facts; simp only [factsOf, Asr.facts, blkFacts, cellsAre, List.toList_toArray, forall_const, Nat.zero_add, Nat.reduceAdd, and_true, true_and] at F
      go_wp2
      ((try simp only [Exit.inBlock, Exit.then]); (apply Cx.atPost); (focus ((repeat (with_reducible (first | exact (H7).toS | exact At.here | apply At.there | apply CxS.drewN | apply CxS.drew | apply CxS.alloc | apply CxS.set | apply CxS.setRow))))); intro HT)
      try simp only [List.setIfInBounds_toArray, List.set_cons_zero, List.set_cons_succ] at HT
      exact bodyPost_ret (results_cell_row rfl _ _ (w.heap.size + 1) _ _ (0, 0) _ rfl (HT.blk (b := w.heap.size + 1) At.here) Try.underlying50 rfl rf_info) rfl ⟨g, c, by first | rfl | trivial, HH.out.join (HT.head (a := .own secsR (.slice (some ⟨g, 0, none⟩) n1 c) _) (by repeat (with_reducible (first | exact At.here | apply At.there))))⟩

-- AUX RQ
set_option maxRecDepth 100000 in
set_option maxHeartbeats 4000000 in
theorem rf_flush_no (x : Rf) (A1 : Option Addr) (n1 c1 : Nat) (A2 : Option Addr) (n2 c2 : Nat) (hok : x.ok = false) (w : World) :
    Calls Try.prog 35 #[.agg (rfC A1 n1 c1 A2 n2 c2 x.steps x.left x.armed x.gone)] w fun e w1 => e = .returned (.tuple #[.agg (rfC A1 n1 c1 A2 n2 c2 x.step.steps x.step.left x.step.armed x.step.gone), .int .i64 3]) ∧ Below w.heap.size w w1 := by
  have Hc := Cx.start w
  have hu := Try.underlying50
  have HK := Aside0.mk hok
  clear hok
  go_enter Try.func35, Try.ntmps35
  go_wp2_with fail
  ((first | apply Cx.genCall | apply Cx.genCode | apply Cx.genList); (focus ((repeat (with_reducible (first | exact (Hc).toS | exact At.here | apply At.there | apply CxS.drewN | apply CxS.drew | apply CxS.alloc | apply CxS.set | apply CxS.setRow))))); clear Hc; intro wa Ha)
  refine (rf_step x A1 n1 c1 A2 n2 c2 _).mono ?_
  rintro e wb ⟨rfl, hb⟩
  have Hb := Ha.below hb
  clear Ha hb
  rw [HK.out]
  have F := (Hb).facts; simp only [factsOf, Asr.facts, blkFacts, cellsAre, List.toList_toArray, forall_const, Nat.zero_add, Nat.reduceAdd, and_true, true_and] at F
  go_wp2
  ((try simp only [Exit.inBlock, Exit.then]); (apply Cx.atPost); (focus ((repeat (with_reducible (first | exact (Hb).toS | exact At.here | apply At.there | apply CxS.drewN | apply CxS.drew | apply CxS.alloc | apply CxS.set | apply CxS.setRow))))); intro HT)
  try simp only [List.setIfInBounds_toArray, List.set_cons_zero, List.set_cons_succ] at HT
  exact bodyPost_ret (results_ct rfl _ _ (w.heap.size + 1) _ _ (0, 0) _ rfl (HT.blk (o := .cells (rfC A1 n1 c1 A2 n2 c2 x.step.steps x.step.left x.step.armed x.step.gone) 50 (0, 0)) (by repeat (with_reducible (first | exact At.here | apply At.there)))) Try.underlying50 rfl rf_info) rfl ⟨by first | rfl | trivial, HT.bel⟩
set_option maxRecDepth 100000 in
set_option maxHeartbeats 4000000 in
theorem rf_flush_yes {B : Nat} {w0 w : World} {m : List Asr} (x : Rf) (g1 n1 c1 : Nat) (A2 : Option Addr) (n2 c2 : Nat) (hok : x.ok = true) (H : Cx B w0 w m) (h1 : rowAt 128 secE w (some ⟨g1, 0, none⟩) n1 c1 x.secs) (h2 : rowAt 129 wrC w A2 n2 c2 x.waiting)
    (hin : ∀ p ∈ x.waiting, 0 ≤ p.1 ∧ p.1 < n1) (hl1 : 0 < n1 ∧ n1 ≤ 100000) (hl2 : n2 ≤ 100000) :
    Calls Try.prog 35 #[.agg (rfC (some ⟨g1, 0, none⟩) n1 c1 A2 n2 c2 x.steps x.left x.armed x.gone)] w fun e w1 => ∃ g c, e = .returned (.tuple #[.agg (rfC (some ⟨g, 0, none⟩) n1 c none 0 0 x.step.steps x.step.left x.step.armed x.step.gone), .int .i64 0]) ∧ Cx B w0 w1 (.own secsR (.slice (some ⟨g, 0, none⟩) n1 c) (doneL x.secs x.waiting) :: m) := by
  have Hc := Cx.start w
  have hu := Try.underlying50
  have HK := Aside0.mk hok
  have HH := Aside0.mk H
  have HR1 := Aside0.mk h1
  have HR2 := Aside0.mk h2
  have HI := Aside0.mk hin
  have HL := Aside0.mk (And.intro hl1 hl2)
  clear hok H h1 h2 hin hl1 hl2
  go_enter Try.func35, Try.ntmps35
  go_wp2_with fail
  ((first | apply Cx.genCall | apply Cx.genCode | apply Cx.genList); (focus ((repeat (with_reducible (first | exact (Hc).toS | exact At.here | apply At.there | apply CxS.drewN | apply CxS.drew | apply CxS.alloc | apply CxS.set | apply CxS.setRow))))); clear Hc; intro wa Ha)
  refine (rf_step x (some ⟨g1, 0, none⟩) n1 c1 A2 n2 c2 _).mono ?_
  rintro e wb ⟨rfl, hb⟩
  have Hb := Ha.below hb
  clear Ha hb
  rw [HK.out]
  have F := (Hb).facts; simp only [factsOf, Asr.facts, blkFacts, cellsAre, List.toList_toArray, forall_const, Nat.zero_add, Nat.reduceAdd, and_true, true_and] at F
  go_wp2_with fail
  ((first | apply Cx.genCall | apply Cx.genCode | apply Cx.genList); (focus ((repeat (with_reducible (first | exact (Hb).toS | exact At.here | apply At.there | apply CxS.drewN | apply CxS.drew | apply CxS.alloc | apply CxS.set | apply CxS.setRow))))); clear Hb; intro wc Hd)
  try simp only [List.setIfInBounds_toArray, List.set_cons_zero, List.set_cons_succ] at Hd
  refine (rf_done g1 n1 c1 A2 n2 c2 x.secs x.waiting Hd (HR1.out.below Hd.bel) (HR2.out.below Hd.bel) HI.out HL.out.1 HL.out.2).mono ?_
  rintro e we ⟨g, c, rfl, He⟩
  clear Hd F
  have F := (He).facts; simp only [factsOf, Asr.facts, blkFacts, cellsAre, List.toList_toArray, forall_const, Nat.zero_add, Nat.reduceAdd, and_true, true_and] at F
  go_wp2
  ((try simp only [Exit.inBlock, Exit.then]); (apply Cx.atPost); (focus ((repeat (with_reducible (first | exact (He).toS | exact At.here | apply At.there | apply CxS.drewN | apply CxS.drew | apply CxS.alloc | apply CxS.set | apply CxS.setRow))))); intro HT)
  try simp only [List.setIfInBounds_toArray, List.set_cons_zero, List.set_cons_succ] at HT
  exact bodyPost_ret (results_ct rfl _ _ (w.heap.size + 1) _ _ (0, 0) _ rfl (HT.blk (o := .cells (rfC (some ⟨g, 0, none⟩) n1 c none 0 0 x.step.steps x.step.left x.step.armed x.step.gone) 50 (0, 0)) (by repeat (with_reducible (first | exact At.here | apply At.there)))) Try.underlying50 rfl rf_info) rfl ⟨g, c, by first | rfl | trivial, HH.out.join (HT.head (a := .own secsR (.slice (some ⟨g, 0, none⟩) n1 c) (doneL x.secs x.waiting)) (by repeat (with_reducible (first | exact At.here | apply At.there))))⟩
def Rf.readL (x : Rf) (i : Int) : List Int × Int := if x.gone = true then (sz0, 3) else if i < 0 ∨ (x.secs.length : Int) ≤ i then (sz0, 1) else ((doneL x.secs x.waiting).getD i.toNat sz0, 0)
set_option maxRecDepth 100000 in
set_option maxHeartbeats 4000000 in
theorem rf_read_bad (x : Rf) (A1 : Option Addr) (n1 c1 : Nat) (A2 : Option Addr) (n2 c2 : Nat) (i : Int) (hn : n1 = x.secs.length) (hbad : x.gone = true ∨ i < 0 ∨ (n1 : Int) ≤ i) (w : World) :
    Calls Try.prog 37 #[.agg (rfC A1 n1 c1 A2 n2 c2 x.steps x.left x.armed x.gone), .int .i64 i] w fun e w1 => e = .returned (.tuple #[.agg (u8A (x.readL i).1), .int .i64 (x.readL i).2]) ∧ Below w.heap.size w w1 := by
  have hz := dk_zero
  have Hc := Cx.start w
  have hu := Try.underlying50
  have F : True := trivial
  cases hg : x.gone
  · have hr : x.readL i = (sz0, 1) := by
      have h2 : i < 0 ∨ (x.secs.length : Int) ≤ i := by rw [← hn]; exact hbad.resolve_left (by rw [hg]; exact fun h => by cases h)
      simp [Rf.readL, hg, h2]
    rw [hr]
    have hbad2 : i < 0 ∨ (n1 : Int) ≤ i := hbad.resolve_left (by rw [hg]; exact fun h => by cases h)
    clear hbad hr hg hn
    rcases hbad2 with hi | hi
    · have hb0 : decide (i < 0) = true := by simp [hi]
      clear hi
      go_enter Try.func37, Try.ntmps37
      go_wp2_with ((((with_reducible refine gate_store (t := 34) (x := .tmp 4) (y := .tmp 18) rfl ?_); (apply Cx.atList); (focus ((repeat (with_reducible (first | exact (Hc).toS | exact At.here | apply At.there | apply CxS.drewN | apply CxS.drew | apply CxS.alloc | apply CxS.set | apply CxS.setRow))))); intro HT_; refine wpList_store_row rfl 34 (.tmp 4) (.tmp 18) rfl (w.heap.size + 1) (u8A sz0) rfl rfl _ _ (HT_.blk (by repeat (with_reducible (first | exact At.here | apply At.there)))) (dk_isz sz0_len) (rfl) (u8A_one _) ?_; clear HT_); clear F; (apply Cx.genList); (focus ((repeat (with_reducible (first | exact (Hc).toS | exact At.here | apply At.there | apply CxS.drewN | apply CxS.drew | apply CxS.alloc | apply CxS.set | apply CxS.setRow))))); clear Hc; intro w4 Hc4; have F := (Hc4).facts; simp only [factsOf, Asr.facts, blkFacts, cellsAre, List.toList_toArray, forall_const, Nat.zero_add, Nat.reduceAdd, and_true, true_and] at F))
      ((try simp only [Exit.inBlock, Exit.then]); (apply Cx.atPost); (focus ((repeat (with_reducible (first | exact (Hc4).toS | exact At.here | apply At.there | apply CxS.drewN | apply CxS.drew | apply CxS.alloc | apply CxS.set | apply CxS.setRow))))); intro HT)
      exact bodyPost_ret (results_ct rfl _ _ (w.heap.size + 1) _ (u8A sz0) (0, 0) _ rfl (HT.blk (by repeat (with_reducible (first | exact At.here | apply At.there)))) Try.underlying34 rfl (dk_isz sz0_len)) rfl ⟨by first | rfl | trivial, HT.bel⟩
    · have hb1 : ¬ i < 0 := by omega
      go_enter Try.func37, Try.ntmps37
      go_wp2_with ((((with_reducible refine gate_store (t := 34) (x := .tmp 4) (y := .tmp 18) rfl ?_); (apply Cx.atList); (focus ((repeat (with_reducible (first | exact (Hc).toS | exact At.here | apply At.there | apply CxS.drewN | apply CxS.drew | apply CxS.alloc | apply CxS.set | apply CxS.setRow))))); intro HT_; refine wpList_store_row rfl 34 (.tmp 4) (.tmp 18) rfl (w.heap.size + 1) (u8A sz0) rfl rfl _ _ (HT_.blk (by repeat (with_reducible (first | exact At.here | apply At.there)))) (dk_isz sz0_len) (rfl) (u8A_one _) ?_; clear HT_); clear F; (apply Cx.genList); (focus ((repeat (with_reducible (first | exact (Hc).toS | exact At.here | apply At.there | apply CxS.drewN | apply CxS.drew | apply CxS.alloc | apply CxS.set | apply CxS.setRow))))); clear Hc; intro w4 Hc4; have F := (Hc4).facts; simp only [factsOf, Asr.facts, blkFacts, cellsAre, List.toList_toArray, forall_const, Nat.zero_add, Nat.reduceAdd, and_true, true_and] at F))
      ((try simp only [Exit.inBlock, Exit.then]); (apply Cx.atPost); (focus ((repeat (with_reducible (first | exact (Hc4).toS | exact At.here | apply At.there | apply CxS.drewN | apply CxS.drew | apply CxS.alloc | apply CxS.set | apply CxS.setRow))))); intro HT)
      exact bodyPost_ret (results_ct rfl _ _ (w.heap.size + 1) _ (u8A sz0) (0, 0) _ rfl (HT.blk (by repeat (with_reducible (first | exact At.here | apply At.there)))) Try.underlying34 rfl (dk_isz sz0_len)) rfl ⟨by first | rfl | trivial, HT.bel⟩
  · have hr : x.readL i = (sz0, 3) := by simp [Rf.readL, hg]
    rw [hr]
    clear hr hbad hg
    go_enter Try.func37, Try.ntmps37
    go_wp2_with ((((with_reducible refine gate_store (t := 34) (x := .tmp 4) (y := .tmp 8) rfl ?_); (apply Cx.atList); (focus ((repeat (with_reducible (first | exact (Hc).toS | exact At.here | apply At.there | apply CxS.drewN | apply CxS.drew | apply CxS.alloc | apply CxS.set | apply CxS.setRow))))); intro HT_; refine wpList_store_row rfl 34 (.tmp 4) (.tmp 8) rfl (w.heap.size + 1) (u8A sz0) rfl rfl _ _ (HT_.blk (by repeat (with_reducible (first | exact At.here | apply At.there)))) (dk_isz sz0_len) (rfl) (u8A_one _) ?_; clear HT_); clear F; (apply Cx.genList); (focus ((repeat (with_reducible (first | exact (Hc).toS | exact At.here | apply At.there | apply CxS.drewN | apply CxS.drew | apply CxS.alloc | apply CxS.set | apply CxS.setRow))))); clear Hc; intro w4 Hc4; have F := (Hc4).facts; simp only [factsOf, Asr.facts, blkFacts, cellsAre, List.toList_toArray, forall_const, Nat.zero_add, Nat.reduceAdd, and_true, true_and] at F))
    ((try simp only [Exit.inBlock, Exit.then]); (apply Cx.atPost); (focus ((repeat (with_reducible (first | exact (Hc4).toS | exact At.here | apply At.there | apply CxS.drewN | apply CxS.drew | apply CxS.alloc | apply CxS.set | apply CxS.setRow))))); intro HT)
    exact bodyPost_ret (results_ct rfl _ _ (w.heap.size + 1) _ (u8A sz0) (0, 0) _ rfl (HT.blk (by repeat (with_reducible (first | exact At.here | apply At.there)))) Try.underlying34 rfl (dk_isz sz0_len)) rfl ⟨by first | rfl | trivial, HT.bel⟩
set_option maxRecDepth 100000 in
set_option maxHeartbeats 4000000 in
theorem rf_read_ok (x : Rf) (g1 n1 c1 : Nat) (A2 : Option Addr) (n2 c2 : Nat) (n : Nat) (w : World) (hg : x.gone = false) (hi : n < n1) (h1 : rowAt 128 secE w (some ⟨g1, 0, none⟩) n1 c1 x.secs) (h2 : rowAt 129 wrC w A2 n2 c2 x.waiting)
    (hin : ∀ p ∈ x.waiting, 0 ≤ p.1 ∧ p.1 < n1) (hl1 : 0 < n1 ∧ n1 ≤ 100000) (hl2 : n2 ≤ 100000) :
    Calls Try.prog 37 #[.agg (rfC (some ⟨g1, 0, none⟩) n1 c1 A2 n2 c2 x.steps x.left x.armed x.gone), .int .i64 (n : Int)] w fun e w1 => e = .returned (.tuple #[.agg (u8A (x.readL n).1), .int .i64 (x.readL n).2]) ∧ Below w.heap.size w w1 := by
  have hz := dk_zero
  have Hc := Cx.start w
  have hu := Try.underlying50
  have hn := h1.1
  have hr : x.readL n = ((doneL x.secs x.waiting).getD n sz0, 0) := by
    unfold Rf.readL
    rw [if_neg (by simp [hg]), if_neg (by omega), Int.toNat_natCast]
  rw [hr]
  have hdl : n < (doneL x.secs x.waiting).length := by rw [doneL_len]; omega
  obtain ⟨s, hs⟩ : ∃ s, (doneL x.secs x.waiting)[n]? = some s := ⟨_, List.getElem?_eq_getElem hdl⟩
  rw [List.getD_eq_getElem?_getD, hs, Option.getD_some]
  have HG := Aside0.mk hg
  have HR1 := Aside0.mk h1
  have HR2 := Aside0.mk h2
  have HI := Aside0.mk hin
  have HS := Aside0.mk hs
  have HL := Aside0.mk (And.intro hl1 hl2)
  have hn0 : (0 : Int) ≤ (n : Int) := by omega
  have hn1 : (n : Int) < (n1 : Int) := by omega
  clear hr hdl hs h1 h2 hin hl1 hl2 hn hi hg
  rw [HG.out]
  go_enter Try.func37, Try.ntmps37
  go_wp2_with fail
  ((first | apply Cx.genCall | apply Cx.genCode | apply Cx.genList); (focus ((repeat (with_reducible (first | exact (Hc).toS | exact At.here | apply At.there | apply CxS.drewN | apply CxS.drew | apply CxS.alloc | apply CxS.set | apply CxS.setRow))))); clear Hc; intro wc Hd)
  refine (rf_done g1 n1 c1 A2 n2 c2 x.secs x.waiting Hd (HR1.out.below Hd.bel) (HR2.out.below Hd.bel) HI.out HL.out.1 HL.out.2).mono ?_
  rintro e we ⟨g, c, rfl, He⟩
  clear Hd
  obtain ⟨g', hg', hgl, _, hsl, hcell⟩ := He.bigAt (xs := doneL x.secs x.waiting) (n := n1) (c := c) (A := some ⟨g, 0, none⟩) At.here n s HS.out
  injection hg' with hg'
  injection hg' with hg'
  subst hg'
  have hs128 : s.length = 128 := by simpa using hsl
  have HSL := Aside0.mk hs128
  have hrg : we.rangeAt g (n * 128) (secE s) := fun j u hu => hcell j u hu
  clear hcell hsl hs128
  have F : True := trivial
  go_wp2_with (first | ((with_reducible refine gate_load (t := 34) (x := .tmp 25) rfl ?_); refine wpList_load_mid rfl 34 (.tmp 25) rfl (g) (n * 128) rfl (secE s) _ (hrg) Try.underlying34 rfl (by rw [List.length_map, HSL.out]; exact dk_info) ?_) | (((with_reducible refine gate_store (t := 34) (x := .tmp 4) (y := .tmp 26) rfl ?_); (apply Cx.atList); (focus ((repeat (with_reducible (first | exact (He).toS | exact At.here | apply At.there | apply CxS.drewN | apply CxS.drew | apply CxS.alloc | apply CxS.set | apply CxS.setRow))))); intro HT_; refine wpList_store_row rfl 34 (.tmp 4) (.tmp 26) rfl (w.heap.size + 1) (u8A s) rfl rfl _ _ (HT_.blk (by repeat (with_reducible (first | exact At.here | apply At.there)))) (dk_isz HSL.out) (by rw [u8A_size, u8A_size, sz0_len, HSL.out]) (u8A_one _) ?_; clear HT_); clear F; (apply Cx.genList); (focus ((repeat (with_reducible (first | exact (He).toS | exact At.here | apply At.there | apply CxS.drewN | apply CxS.drew | apply CxS.alloc | apply CxS.set | apply CxS.setRow))))); clear He; intro w4 He4; have F := (He4).facts; simp only [factsOf, Asr.facts, blkFacts, cellsAre, List.toList_toArray, forall_const, Nat.zero_add, Nat.reduceAdd, and_true, true_and] at F))
  ((try simp only [Exit.inBlock, Exit.then]); (apply Cx.atPost); (focus ((repeat (with_reducible (first | exact (He4).toS | exact At.here | apply At.there | apply CxS.drewN | apply CxS.drew | apply CxS.alloc | apply CxS.set | apply CxS.setRow))))); intro HT)
  exact bodyPost_ret (results_ct rfl _ _ (w.heap.size + 1) _ (u8A s) (0, 0) _ rfl (HT.blk (by repeat (with_reducible (first | exact At.here | apply At.there)))) Try.underlying34 rfl (dk_isz HSL.out)) rfl ⟨by first | rfl | trivial, HT.bel⟩

-- AUX RN
theorem made_flat (z : List Value) (hz : 0 < z.length) (n : Nat) : madeCells z.toArray (n * z.length) = ((List.replicate n z).flatMap id).toArray := by
  apply Array.ext
  · rw [size_madeCells, List.size_toArray, flat_len (enc := id) (sz := z.length) (fun x hx => by rw [(List.mem_replicate.1 hx).2]; rfl), List.length_replicate]
  · intro j h1 h2
    have hj : j < n * z.length := by simpa [madeCells] using h1
    have hq : j / z.length < n := Nat.div_lt_of_lt_mul (by rw [Nat.mul_comm]; exact hj)
    have hlt := Nat.mod_lt j hz
    have hsplit : List.replicate n z = List.replicate (j / z.length) z ++ z :: List.replicate (n - j / z.length - 1) z := by
      rw [← List.replicate_succ, List.replicate_append_replicate]
      congr 1
      omega
    have hl : ((List.replicate (j / z.length) z).flatMap id).length = j / z.length * z.length := by
      rw [flat_len (enc := id) (sz := z.length) (fun x hx => by rw [(List.mem_replicate.1 hx).2]; rfl), List.length_replicate]
    have hjm : j / z.length * z.length + j % z.length = j := by rw [Nat.mul_comm]; exact Nat.div_add_mod j z.length
    have e1 : (madeCells z.toArray (n * z.length))[j] = z[j % z.length] := by simp [madeCells, hlt]
    have e2 : ((List.replicate n z).flatMap id)[j]? = z[j % z.length]? := by
      rw [hsplit, List.flatMap_append, List.flatMap_cons, List.getElem?_append_right (by rw [hl]; omega), hl, List.getElem?_append_left (by simp only [id]; omega)]
      congr 1
      omega
    rw [e1]
    have e3 : ((List.replicate n z).flatMap id)[j]? = some (((List.replicate n z).flatMap id).toArray[j]) := by simp
    rw [e2, List.getElem?_eq_getElem hlt] at e3
    exact Option.some.inj e3
theorem rf_make (n : Nat) (h : n ≤ 100000) (W : World) : (Instr.makeSlice 31 (.int .i64 (n : Int)) (.int .i64 (n : Int))).run Try.prog W = .ok (.slice (some ⟨W.heap.size, 0, none⟩) n n) (W.alloc (.cells (((List.replicate n sz0).flatMap secE).toArray) 34)) := by
  obtain ⟨i, hi, hz⟩ := Option.map_eq_some_iff.1 sec_info3
  simp only [Prod.mk.injEq] at hz
  have hm := run_make W 31 34 i _ Try.underlying31 hi hz.1 .i64 .i64 n n (by omega) (by omega) (by rw [hz.2.2]; omega) (by omega)
  have e : (Value.agg (u8A sz0)).cells = (secE sz0).toArray := rfl
  have hl : (secE sz0).length = 128 := by simp [sz0]
  have hm2 := made_flat (secE sz0) (by omega) n
  rw [hl] at hm2
  rw [Int.toNat_natCast, hz.2.1, e, hm2] at hm
  rw [hm]
  have : (List.replicate n (secE sz0)).flatMap id = (List.replicate n sz0).flatMap secE := by
    simp only [List.flatMap_replicate, id]
  rw [this]
theorem rf_build5 (W : World) (g n : Nat) : (Instr.build 50 #[(0, .slice (some ⟨g, 0, none⟩) n n)]).run Try.prog W = .ok (.agg (rfC (some ⟨g, 0, none⟩) n n none 0 0 0 0 false false)) W := by
  refine run_build W _ _ _ ?_
  have hi0 : (Try.prog.info? 50).map (fun i => i.zero) = some (some (.agg (rfC none 0 0 none 0 0 0 0 false false))) := by kernel_rfl
  obtain ⟨it, hi, hz⟩ := Option.map_eq_some_iff.1 hi0
  have hp : (match Try.prog.underlying 50 with | some (.struct fields) => fields.toList.mapM (fun f => (Try.prog.info? f.type).map fun i => (f.offset, i.size)) | _ => none) = some [(0, 1), (1, 1), (2, 1), (3, 1), (4, 1), (5, 1)] := by kernel_rfl
  unfold Program.built
  simp only [hi, Try.underlying50, hz] at hp ⊢
  rfl
/-- The document's disk, new. -/
def Rf.new (n : Nat) : Rf := ⟨List.replicate n sz0, [], 0, 0, false, false⟩
/-- Where the rows of the document's disk lie. -/
structure RfAt (m : List Asr) (x : Rf) (A1 : Option Addr) (n1 c1 : Nat) (A2 : Option Addr) (n2 c2 : Nat) : Prop where
  s : ∃ q, At m (.own secsR (.slice A1 n1 c1) x.secs) q
  w : ∃ q, At m (.own rwaitR (.slice A2 n2 c2) x.waiting) q
  z : n2 = 0 → A2 = none ∧ c2 = 0
theorem RfAt.cons {m : List Asr} {x : Rf} {A1 : Option Addr} {n1 c1 : Nat} {A2 : Option Addr} {n2 c2 : Nat} (h : RfAt m x A1 n1 c1 A2 n2 c2) (a : Asr) : RfAt (a :: m) x A1 n1 c1 A2 n2 c2 :=
  ⟨h.s.elim fun _ k => ⟨_, .there k⟩, h.w.elim fun _ k => ⟨_, .there k⟩, h.z⟩
theorem RfAt.app {m : List Asr} {x : Rf} {A1 : Option Addr} {n1 c1 : Nat} {A2 : Option Addr} {n2 c2 : Nat} (h : RfAt m x A1 n1 c1 A2 n2 c2) : ∀ ex : List Asr, RfAt (ex ++ m) x A1 n1 c1 A2 n2 c2
  | [] => h
  | a :: ex => (h.app ex).cons a
set_option maxRecDepth 100000 in
set_option maxHeartbeats 2000000 in
theorem rf_new {w : World} (n : Nat) (hn : 0 < n ∧ n ≤ 100000) :
    Calls Try.prog 23 #[.int .i64 (n : Int)] w fun e w1 => ∃ g, e = .returned (.agg (rfC (some ⟨g, 0, none⟩) n n none 0 0 0 0 false false)) ∧ ∃ ex, Cx w.heap.size w w1 ex ∧ ∀ m, RfAt (ex ++ m) (Rf.new n) (some ⟨g, 0, none⟩) n n none 0 0 := by
  have hm := rf_make n hn.2
  have hb := rf_build5
  have HN := Aside0.mk hn
  have Hc := Cx.start w
  clear hn
  go_enter Try.func23, Try.ntmps23
  go_wp2_with (refine wpList_exec_value rfl (exec_build 50 #[(0, .tmp 4)] rfl #[(0, .slice (some ⟨w.heap.size + 1, 0, none⟩) n n)] rfl (hb _ _ _)) ?_)
  ((try simp only [Exit.inBlock, Exit.then]); (apply Cx.atPost); (focus ((repeat (with_reducible (first | exact (Hc).toS | exact At.here | apply At.there | apply CxS.drewN | apply CxS.drew | apply CxS.alloc | apply CxS.set | apply CxS.setRow))))); intro HT)
  try simp only [List.setIfInBounds_toArray, List.set_cons_zero, List.set_cons_succ] at HT
  have H2 := HT.bigLit (g := w.heap.size + 1) (size := 128) (enc := secE) (List.replicate n sz0) (by repeat (with_reducible (first | exact At.here | apply At.there))) rfl (fun x hx => by rw [(List.mem_replicate.1 hx).2]; simp [sz0]) (by rw [List.length_replicate]; have := HN.out; omega)
  rw [List.length_replicate] at H2
  have H3 := (H2.head (a := .own secsR (.slice (some ⟨w.heap.size + 1, 0, none⟩) n n) (List.replicate n sz0)) (by repeat (with_reducible (first | exact At.here | apply At.there)))).bigNil 87 129 wrC
  exact bodyPost_ret (results_cell_row rfl _ _ w.heap.size _ (rfC (some ⟨w.heap.size + 1, 0, none⟩) n n none 0 0 0 0 false false) (0, 0) _ rfl (HT.blk (b := w.heap.size) (by repeat (with_reducible (first | exact At.here | apply At.there)))) Try.underlying50 rfl rf_info) rfl ⟨_, by first | rfl | trivial, [.own rwaitR (.slice none 0 0) [], .own secsR (.slice (some ⟨w.heap.size + 1, 0, none⟩) n n) (List.replicate n sz0)], H3, fun _ => ⟨⟨_, .there .here⟩, ⟨_, .here⟩, fun _ => ⟨rfl, rfl⟩⟩⟩

end Go.Proofs.Ytjoledofiindcaa.Hp
