/- Contracts of functions of the given program, and what they lean on: written by this session's own program hprint.py, which lays hand texts into the kit's printer. -/
import Derived.ArgAppend
import Derived.Deep.DeepAppendRoom
import Derived.Test.YtdfkecfmmcdgiaaHp0
namespace Go.Proofs.Ytdfkecfmmcdgiaa.Hp
open Go.RowKit Go.Proofs.YtdfkecfmmcdgiaaW.PrintWords Go.Proofs.YtdfkecfmmcdgiaaW.PrintLast Go.Proofs.YtdfkecfmmcdgiaaW.PrintMore
attribute [local go_sem] max2_int min2_int max_two min_two max_three min_three max_four min_four   -- for this text's walks alone
set_option linter.unusedVariables false
set_option linter.unusedSimpArgs false

/-! ### laminanum_Kept: function 14 -/
/-- The bytes are read out of a copy with marks. -/
theorem Kp_C {w : World} {base g cap : Nat} {ok : Nat → Prop} {l : List Int} (h : Kd.R (Kd.int .u8) 5 w base ok (.slice (some ⟨g, 0, none⟩) (l ++ [165, 90]).length cap) (l ++ [165, 90])) :
    Kd.C (Kd.int .u8) w (some ⟨g, 0, none⟩) l.length l ∧ l.length + 2 ≤ cap := by
  obtain ⟨h0, h1, h2⟩ := Kd.R_reads' h
  refine ⟨?_, by simpa using h1⟩
  have := Kd.C_take (m := l.length) h2 (by simp)
  simpa using this
theorem laminanum_Kept.calls (g cap base : Nat) (ok : Nat → Prop) (A1 : Option Addr) (c1 : Nat) (l : List Int) (w : World)
    (hR : Kd.R (Kd.int .u8) 5 w base ok (.slice (some ⟨g, 0, none⟩) (l ++ [165, 90]).length cap) (l ++ [165, 90])) (hr1 : Kd.C (Kd.int .u8) w A1 l.length l) (hn : l.length ≤ 900000) :
    Calls Try.prog 14 #[.slice (some ⟨g, 0, none⟩) l.length cap, .slice A1 l.length c1] w fun e w' => e = .returned (.bool true) ∧ Drawn0 w w' := by
  obtain ⟨hC, hcap⟩ := Kp_C hR
  have hcv3 := fun c => Kd.C_string (P := Try.prog) (A := some ⟨g, 0, none⟩) (c := c) Try.underlying22 Try.underlying5 Try.underlying9 hC
  have hcv4 := Kd.C_string (P := Try.prog) (A := A1) (c := c1) Try.underlying22 Try.underlying5 Try.underlying9 hr1
  have e0 := (Kd.R_celln (enc := Value.int .u8) (h1 := fun _ => rfl) 0 hR (l.length : Int) (by omega) (by first | (simp; done) | (simp; omega))).1
  have e1 := (Kd.R_celln (enc := Value.int .u8) (h1 := fun _ => rfl) 0 hR ((l.length : Int) + 1) (by omega) (by first | (simp; done) | (simp; omega))).1
  have f0 : rdOf 0 (l ++ [165, 90]) (l.length : Int) = 165 := by simp [rdOf]
  have f1 : rdOf 0 (l ++ [165, 90]) ((l.length : Int) + 1) = 90 := by
    have : ((l.length : Int) + 1).toNat = l.length + 1 := by omega
    simp [rdOf, this]
  rw [f0, Int.toNat_natCast] at e0
  rw [f1, show ((l.length : Int) + 1).toNat = l.length + 1 by omega] at e1
  clear f0 f1
  have HR := Aside0.mk hR
  have HC := Aside0.mk hC
  have HD := Aside0.mk hr1
  clear hR hC hr1
  go_enter Try.func14, Try.ntmps14
  go_wp2
  go_ret
  exact ⟨rfl, Drawn0.refl _⟩

-- AUX appendw
theorem own_kept {w w' : World} {base e : Nat} {v : Value} {n : Nat} {xs : List Value} {row : Option Nat} (h : w.ownsRow base e 1 v n xs) (hg : w.grownBy w' row) (hne : v.ownBlock = none ∨ v.ownBlock ≠ row) : w'.ownsRow base e 1 v n xs := by
  refine ⟨h.1, ?_⟩
  rcases h.2 with h0 | ⟨g, cap, cur, rfl, hb, hh, h3⟩
  · exact .inl h0
  · have hlt : g < w.heap.size := by
      rcases Nat.lt_or_ge g w.heap.size with h4 | h4
      · exact h4
      · rw [Array.getElem?_eq_none h4] at hh; cases hh
    refine .inr ⟨g, cap, cur, rfl, hb, ?_, h3⟩
    have h6 : some g ≠ row := by
      rcases hne with h5 | h5
      · cases h5
      · exact h5
    rw [hg.block g hlt h6]
    exact hh
section
variable {P : Program} {ops : Array Oper} {rest : List Oper} {o : Oper} {a : Act} {Q : Exit → Act → World → Prop}
theorem app_exact {w0 W : World} (base : Nat) (hgd : o.guard = none) (s x : Operand) (t e : TypeId) (z : Value) (bytes : Nat)
    (ho : o.op = .call { callee := .builtin .append, args := #[s, x], argTypes := #[t, t] })
    (ht : P.underlying t = some (.slice e)) (hinfo : (P.info? e).map (fun i => (i.zero, i.size, i.bytes)) = some (some z, 1, bytes)) (hz : z.cells.size = 1) (hb0 : 0 < bytes)
    (v : Value) (n : Nat) (xs : List Value) (y : Value) (hs : a.eval s = v) (hx : a.eval x = .slice (some ⟨W.heap.size, 0, none⟩) 1 1) (h1 : y.oneCell' = true)
    (HO : W.ownsRow base e 1 v n xs) (HB : Below base w0 W) (hbase : base ≤ W.heap.size) (hl : (n + 1) * bytes ≤ 140737488355328)
    (h : ∀ v1 w1, w1.ownsRow base e 1 v1 (n + 1) (xs ++ [y]) → Below base w0 w1 →
      ((∃ g cap, v = .slice (some ⟨g, 0, none⟩) n cap ∧ v1 = .slice (some ⟨g, 0, none⟩) (n + 1) cap ∧ W.grownBy w1 (some g)) ∨ ((∃ b, v1.ownBlock = some b ∧ W.heap.size ≤ b) ∧ W.grownBy w1 none)) → wpList P ops Q rest (a.put o.dst v1) w1) :
    wpList P ops Q (o :: rest) a (W.alloc (.cells #[y] e)) := by
  have key : ∀ v1 w1, (Builtin.append_ #[t, t] o.type #[v, .slice (some ⟨W.heap.size, 0, none⟩) 1 1]).run P (W.alloc (.cells #[y] e)) = .ok v1 w1 → wpList P ops Q rest (a.put o.dst v1) w1 → wpList P ops Q (o :: rest) a (W.alloc (.cells #[y] e)) := by
    intro v1 w1 hr hk
    refine wpList_plain hgd fun K hK => ?_
    unfold Oper.wp execOp
    simp only [ho, resolve, invoke, builtin, Sem.run_bind, Sem.run_pure, Result.andThen_ok, List.map_toArray, List.map_cons, List.map_nil, hs, hx, hr]
    exact hK _ _ hk
  rcases HO.2 with ⟨rfl, rfl⟩ | ⟨g, cap, cur, rfl, hbg, hg, hnc, hcm, hcs, htake⟩
  · refine print_append_cells (w0 := w0) base hgd s x t e z 1 bytes ho ht hinfo hz (by omega) hb0 _ 0 xs [y] hs hx rfl (by simpa using h1) HO HB hbase hl ?_
    intro v1 w1 hown hb hgr hat
    refine h v1 w1 hown hb (.inr ⟨?_, hgr⟩)
    rcases hat with hat | hat
    · obtain ⟨g, cap, he, _⟩ := hown.form (by omega)
      rw [he] at hat
      cases hat
    · exact hat
  · obtain ⟨i0, hi, hzz⟩ := Option.map_eq_some_iff.1 hinfo
    simp only [Prod.mk.injEq] at hzz
    obtain ⟨hz0, hz1, hz2⟩ := hzz
    have hnews : ∀ j u, [y][j]? = some u → (W.alloc (.cells #[y] e)).cell? ((⟨W.heap.size, 0, none⟩ : Addr).add j) = some u := by
      simpa using World.news_of_block (cs := #[y]) (t := e) (fr := (0, 0)) (heap_alloc_new W (.cells #[y] e))
    by_cases hroom : n + 1 ≤ cap
    · obtain ⟨w1, hr, hown, hgr⟩ := run_append_own_spare (P := P) (W.alloc (.cells #[y] e)) base t o.type e i0 1 ht hi hz1 g n cap xs (HO.alloc _) ⟨W.heap.size, 0, none⟩ 1 1 [y] rfl hnews (by simpa using h1) hroom
      refine key _ _ hr (h _ _ hown ((HB.alloc hbase _).grown hgr (by simp; omega) (fun k hk => by injection hk with hk; subst hk; exact hbg)) (.inl ⟨g, cap, rfl, rfl, World.grownBy.trans (World.grownBy_alloc W _ _) hgr⟩))
    · have hlen : n + 1 ≤ 140737488355328 := Nat.le_trans (Nat.le_mul_of_pos_right _ hb0) hl
      obtain ⟨v1, w1, hr, hown, hgr⟩ := run_append_arg_grows (P := P) (W.alloc (.cells #[y] e)) t o.type e i0 z 1 bytes ht hi hz0 hz1 hz2 hz (by omega) ⟨g, 0, none⟩ n cap xs HO.1 ((HO.alloc _).cells (g := g) rfl) ⟨W.heap.size, 0, none⟩ 1 1 [y] rfl hnews (by omega) (by simp only [maxLen]; omega) hl
      have hown2 : w1.ownsRow base e 1 v1 (n + 1) (xs ++ [y]) := own_weaken hown (by simp; omega)
      obtain ⟨g2, cap2, he, hb2, hl2⟩ := hown.form (by omega)
      refine key _ _ hr (h _ _ hown2 ((HB.alloc hbase _).grown hgr (by simp; omega) (fun k hk => by cases hk)) (.inr ⟨⟨g2, by rw [he]; rfl, by simp at hb2; omega⟩, World.grownBy.trans (World.grownBy_alloc W _ _) hgr⟩))
end

-- AUX apartw
/-- One own row of bytes. -/
abbrev Ow (w : World) (base : Nat) (v : Value) (xs : List Int) : Prop := w.ownsRow base 5 1 v xs.length (encs (Value.int .u8) xs)
def pat (i n : Nat) : List Int := (List.range n).map fun j : Nat => (31 * (i : Int) + 3 * (j : Int) + 1) % 256
def patO (i : Nat) (xs : List Int) (j : Nat) : List Int := pat i j ++ xs.drop j
theorem pat_len (i n : Nat) : (pat i n).length = n := by simp [pat]
theorem patO_len (i : Nat) (xs : List Int) (j : Nat) (h : j ≤ xs.length) : (patO i xs j).length = xs.length := by simp [patO, pat_len]; omega
theorem pat_succ (i n : Nat) : pat i (n + 1) = pat i n ++ [(31 * (i : Int) + 3 * (n : Int) + 1) % 256] := by
  unfold pat
  rw [List.range_succ, List.map_append, List.map_singleton]
theorem patO_step (i : Nat) (xs : List Int) (j : Nat) (h : j < xs.length) : (patO i xs j).set j ((31 * (i : Int) + 3 * (j : Int) + 1) % 256) = patO i xs (j + 1) := by
  unfold patO
  rw [List.set_append_right _ _ (by rw [pat_len]; omega), pat_len, Nat.sub_self, List.drop_eq_getElem_cons h, List.set_cons_zero, pat_succ, List.append_assoc, List.singleton_append]
theorem patO_zero (i : Nat) (xs : List Int) : patO i xs 0 = xs := by simp [patO, pat]
theorem patO_all (i : Nat) (xs : List Int) : patO i xs xs.length = pat i xs.length := by simp [patO]
theorem pat_take (i n m : Nat) (h : m ≤ n) : (pat i n).take m = pat i m := by
  unfold pat
  rw [← List.map_take, List.take_range, Nat.min_eq_left h]
theorem pat_get (i n j : Nat) (h : j < n) : rd (pat i n) j = (31 * (i : Int) + 3 * (j : Int) + 1) % 256 := by
  show (pat i n).getD (j : Int).toNat 0 = _
  rw [Int.toNat_natCast, List.getD_eq_getElem?_getD]
  simp [pat, h]
theorem Ow_R {w : World} {base : Nat} {v : Value} {xs : List Int} (h : Ow w base v xs) : Kd.R (Kd.int .u8) 5 w base (fun _ => True) v xs := Kd.R_of_own (enc := Value.int .u8) (h1 := fun _ => rfl) h (fun _ _ => trivial)
theorem R_Ow {w : World} {base : Nat} {ok : Nat → Prop} {v : Value} {xs : List Int} (h : Kd.R (Kd.int .u8) 5 w base ok v xs) : Ow w base v xs := Kd.own_of_R (enc := Value.int .u8) (h1 := fun _ => rfl) h
/-- What phase one has made of row i. -/
def ph1 (xss : Nat → List Int) (k j i : Nat) : List Int := if i < k then pat i (xss i).length else if i = k then patO i (xss i) j else xss i
theorem ph1_len (xss : Nat → List Int) (k j i : Nat) (hj : j ≤ (xss k).length) : (ph1 xss k j i).length = (xss i).length := by
  unfold ph1
  split
  · rw [pat_len]
  · split
    · rename_i h; subst h; rw [patO_len _ _ _ hj]
    · rfl
theorem ph1_other (xss : Nat → List Int) (k j j' i : Nat) (h : i ≠ k) : ph1 xss k j i = ph1 xss k j' i := by
  unfold ph1
  rw [if_neg h, if_neg h]
theorem ph1_next (xss : Nat → List Int) (k i : Nat) : ph1 xss k (xss k).length i = ph1 xss (k + 1) 0 i := by
  unfold ph1
  by_cases h1 : i < k
  · rw [if_pos h1, if_pos (by omega)]
  · rw [if_neg h1]
    by_cases h2 : i = k
    · subst h2
      rw [if_pos rfl, if_pos (by omega), patO_all]
    · rw [if_neg h2, if_neg (by omega)]
      split
      · rw [patO_zero]
      · rfl
theorem ph1_store {vs : List Value} {xss : Nat → List Int} {wr : World} {base k j g n c : Nat} (HO : ∀ (i : Nat) (v : Value), vs[i]? = some v → Ow wr base v (ph1 xss k j i)) (hv : vs[k]? = some (.slice (some ⟨g, 0, none⟩) n c)) (hn : (xss k).length = n) (hj : j < n)
    (hd : ∀ (i j : Nat) (u v : Value), i ≠ j → vs[i]? = some u → vs[j]? = some v → u.ownBlock = none ∨ u.ownBlock ≠ v.ownBlock) :
    (∀ (i : Nat) (v : Value), vs[i]? = some v → Ow (wr.setCell ⟨g, j, none⟩ (.int .u8 ((31 * (k : Int) + 3 * (j : Int) + 1) % 256))) base v (ph1 xss k (j + 1) i)) ∧ wr.grownBy (wr.setCell ⟨g, j, none⟩ (.int .u8 ((31 * (k : Int) + 3 * (j : Int) + 1) % 256))) (some g) := by
  have hk := HO k _ hv
  have hlen : (ph1 xss k j k).length = n := by rw [ph1_len xss k j k (by omega), hn]
  have hR := Ow_R hk
  have e : ph1 xss k j k = patO k (xss k) j := by unfold ph1; rw [if_neg (by omega), if_pos rfl]
  have e2 : ph1 xss k (j + 1) k = patO k (xss k) (j + 1) := by unfold ph1; rw [if_neg (by omega), if_pos rfl]
  subst hlen
  have hP := Kd.R_putg (enc := Value.int .u8) (h1 := fun _ => rfl) hR (j : Int) ((31 * (k : Int) + 3 * (j : Int) + 1) % 256)
  rw [Int.toNat_natCast] at hP
  refine ⟨fun i v hi => ?_, hP.2⟩
  by_cases hik : i = k
  · subst hik
    rw [hv] at hi
    injection hi with hi
    subst hi
    rw [e2, ← patO_step i (xss i) j (by omega), ← e]
    exact R_Ow hP.1
  · rw [ph1_other xss k (j + 1) j i hik]
    refine own_kept (HO i v hi) hP.2 ?_
    rcases hd i k _ _ hik hi hv with h | h
    · exact .inl h
    · exact .inr h
/-- Rows of bytes are none of the rows of slices. -/
theorem Ow_types {w : World} {base b2 n : Nat} {u v : Value} {xs : List Int} {ys : List Value} (h : Ow w base u xs) (h2 : w.ownsRow b2 22 1 v n ys) : u.ownBlock = none ∨ u.ownBlock ≠ v.ownBlock := by
  rcases h.2 with ⟨rfl, _⟩ | ⟨g, cap, cur, rfl, _, hg, _⟩
  · exact .inl rfl
  · right
    exact own_ne h2 hg (by decide)
theorem Ow_lt {w : World} {base : Nat} {u : Value} {xs : List Int} (h : Ow w base u xs) : ∀ b, u.ownBlock = some b → b < w.heap.size := fun b hb => (World.ownsRow.lt h b hb).2
/-- What is known while the rows grow: row i of 'us' has grown, 'vs' are as they were. -/
def ph2 (vs : List Value) (xss : Nat → List Int) (b0 base S : Nat) (w wr : World) (us : List Value) (v6 : Value) : Prop :=
  (∀ (i : Nat) (u : Value), us[i]? = some u → Ow wr base u (pat i ((xss i).length + 10))) ∧
  (∀ (i : Nat) (v : Value), vs[i]? = some v → Ow wr base v (pat i (xss i).length)) ∧
  (∀ (i : Nat) (u v : Value), us[i]? = some u → vs[i]? = some v → u.ownBlock = v.ownBlock ∨ ∃ b, u.ownBlock = some b ∧ S ≤ b) ∧
  (∀ (i j : Nat) (u u' : Value), i ≠ j → us[i]? = some u → us[j]? = some u' → u.ownBlock = none ∨ u.ownBlock ≠ u'.ownBlock) ∧
  wr.heap[b0]? = some (.cells vs.toArray 22 (0, 0)) ∧ wr.ownsRow base 22 1 v6 us.length us ∧ Below base w wr ∧ S ≤ wr.heap.size ∧ (∀ b, v6.ownBlock = some b → S ≤ b)
/-- The row k that grows: m bytes so far. -/
def ph2l (vs us : List Value) (S base n : Nat) (wr : World) (k m : Nat) (l : Value) : Prop :=
  Ow wr base l (pat k m) ∧
  ((∃ g c, vs[k]? = some (.slice (some ⟨g, 0, none⟩) n c) ∧ l = .slice (some ⟨g, 0, none⟩) m c) ∨ (∃ v, vs[k]? = some v ∧ v.ownBlock = none ∧ l.ownBlock = none) ∨ (∃ b, l.ownBlock = some b ∧ S ≤ b)) ∧
  (∀ (i : Nat) (u : Value), us[i]? = some u → l.ownBlock = none ∨ l.ownBlock ≠ u.ownBlock)
theorem nokept (o : Option Nat) : o = none ∨ o ≠ none := by
  cases o
  · exact .inl rfl
  · exact .inr (by simp)
theorem encs_pat (k m : Nat) : encs (Value.int .u8) (pat k (m + 1)) = encs (Value.int .u8) (pat k m) ++ [.int .u8 ((31 * (k : Int) + 3 * (m : Int) + 1) % 256)] := by
  rw [pat_succ]
  simp [encs]
theorem ph2_app {vs us : List Value} {xss : Nat → List Int} {b0 base S n k m : Nat} {w W w1 : World} {v6 l v1 : Value} (H : ph2 vs xss b0 base S w W us v6) (L : ph2l vs us S base n W k m l) (hn : (xss k).length = n) (hnm : n ≤ m)
    (hS : ∀ (i : Nat) (v : Value) (b : Nat), vs[i]? = some v → v.ownBlock = some b → b < S) (hd : ∀ (i j : Nat) (u v : Value), i ≠ j → vs[i]? = some u → vs[j]? = some v → u.ownBlock = none ∨ u.ownBlock ≠ v.ownBlock) (hb0 : b0 < S)
    (h1 : w1.ownsRow base 5 1 v1 (m + 1) (encs (Value.int .u8) (pat k m) ++ [.int .u8 ((31 * (k : Int) + 3 * (m : Int) + 1) % 256)])) (hb : Below base w w1)
    (hg : (∃ g cap, l = .slice (some ⟨g, 0, none⟩) m cap ∧ v1 = .slice (some ⟨g, 0, none⟩) (m + 1) cap ∧ W.grownBy w1 (some g)) ∨ ((∃ b, v1.ownBlock = some b ∧ W.heap.size ≤ b) ∧ W.grownBy w1 none)) :
    ph2 vs xss b0 base S w w1 us v6 ∧ ph2l vs us S base n w1 k (m + 1) v1 := by
  obtain ⟨Ha, Hc, Hd1, Hd2, Hh, Hf, _, Hs, Hv6⟩ := H
  obtain ⟨L1, L2, L3⟩ := L
  rw [← encs_pat] at h1
  have hOw : Ow w1 base v1 (pat k (m + 1)) := by
    show w1.ownsRow base 5 1 v1 (pat k (m + 1)).length _
    rw [pat_len]
    exact h1
  rcases hg with ⟨g, cap, rfl, rfl, hg⟩ | ⟨⟨b, hvb, hbb⟩, hg⟩
  · have hlb : (Value.slice (some ⟨g, 0, none⟩) m cap).ownBlock = some g := rfl
    have hlb1 : (Value.slice (some ⟨g, 0, none⟩) (m + 1) cap).ownBlock = some g := rfl
    refine ⟨⟨fun i u hi => own_kept (Ha i u hi) hg ?_, fun i v hi => ?_, Hd1, Hd2, ?_, own_kept Hf hg ?_, hb, Nat.le_trans Hs hg.size, Hv6⟩, hOw, ?_, fun i u hi => ?_⟩
    · rcases L3 i u hi with h | h
      · cases h
      · exact .inr (fun e => h (by rw [hlb, e]))
    · by_cases hv : v.ownBlock = some g
      · rcases L2 with ⟨g', c, hk, hl⟩ | ⟨v', hk, _, hl⟩ | ⟨b, hl, hbS⟩
        · injection hl with hA _ hcc
          injection hA with hA
          injection hA with hA
          subst hA hcc
          by_cases hik : i = k
          · subst hik
            rw [hk] at hi
            injection hi with hi
            subst hi
            rcases hOw.2 with ⟨h0, _⟩ | ⟨g2, cap2, cur, he, hbg, hhg, hnc, hcm, hcs, htk⟩
            · cases h0
            · injection he with hA2 _ hcc2
              injection hA2 with hA2
              injection hA2 with hA2
              subst hA2 hcc2
              rw [pat_len] at hnc htk
              refine ⟨by rw [encs_length, Nat.mul_one], .inr ⟨g, cap, cur, ?_, hbg, hhg, ?_, hcm, hcs, ?_⟩⟩
              · rw [pat_len, hn]
              · rw [pat_len]; omega
              · have := congrArg (List.take n) htk
                rw [List.take_take, Nat.min_eq_left (by omega)] at this
                rw [pat_len, Nat.mul_one, hn, this]
                unfold encs
                rw [← List.map_take, pat_take _ _ _ (by omega)]
          · rcases hd i k v _ hik hi hk with h | h
            · rw [hv] at h; cases h
            · exact absurd hv h
        · cases hl
        · rw [hlb] at hl
          injection hl with hl
          subst hl
          have := hS i v g hi hv
          omega
      · exact own_kept (Hc i v hi) hg (.inr hv)
    · rw [hg.block b0 (by omega) (own_ne L1 Hh (by decide))]
      exact Hh
    · rcases Ow_types L1 Hf with h | h
      · cases h
      · exact .inr (fun e => h (by rw [hlb, e]))
    · rcases L2 with ⟨g', c, hk, hl⟩ | ⟨v', hk, _, hl⟩ | ⟨b, hl, hbS⟩
      · injection hl with hA _ hcc
        subst hcc
        exact .inl ⟨g', cap, hk, by rw [hA]⟩
      · cases hl
      · exact .inr (.inr ⟨b, hl, hbS⟩)
    · exact L3 i u hi
  · refine ⟨⟨fun i u hi => own_kept (Ha i u hi) hg (nokept _), fun i v hi => own_kept (Hc i v hi) hg (nokept _), Hd1, Hd2, ?_, own_kept Hf hg (nokept _), hb, Nat.le_trans Hs hg.size, Hv6⟩, hOw, .inr (.inr ⟨b, hvb, by omega⟩), fun i u hi => .inr ?_⟩
    · rw [hg.block b0 (by omega) (by simp)]
      exact Hh
    · rw [hvb]
      intro e
      have := Ow_lt (Ha i u hi) b e.symm
      omega
theorem ph2_push {vs us : List Value} {xss : Nat → List Int} {b0 base S n k : Nat} {w W w1 : World} {v6 l v1 : Value} (H : ph2 vs xss b0 base S w W us v6) (L : ph2l vs us S base n W k (n + 10) l) (hk : us.length = k) (hn : (xss k).length = n)
    (hb0 : b0 < S) (h1 : w1.ownsRow base 22 1 v1 (us.length + 1) (us ++ [l])) (hb : Below base w w1) (hg : W.grownBy w1 v6.ownBlock) (hat : v1.ownBlock = v6.ownBlock ∨ ∃ b, v1.ownBlock = some b ∧ W.heap.size ≤ b) :
    ph2 vs xss b0 base S w w1 (us ++ [l]) v1 := by
  obtain ⟨Ha, Hc, Hd1, Hd2, Hh, Hf, _, Hs, Hv6⟩ := H
  obtain ⟨L1, L2, L3⟩ := L
  have lastk : ∀ (i : Nat) (u : Value), (us ++ [l])[i]? = some u → us[i]? = some u ∨ (i = k ∧ u = l) := by
    intro i u hi
    rcases Nat.lt_or_ge i us.length with h | h
    · rw [List.getElem?_append_left h] at hi
      exact .inl hi
    · rw [List.getElem?_append_right h] at hi
      rcases hq : i - us.length with _ | q
      · rw [hq] at hi
        simp at hi
        exact .inr ⟨by omega, hi.symm⟩
      · rw [hq] at hi
        simp at hi
  refine ⟨fun i u hi => ?_, fun i v hi => own_kept (Hc i v hi) hg (Ow_types (Hc i v hi) Hf), fun i u v hi hv => ?_, fun i j u u' hij hi hj => ?_, ?_, by rw [List.length_append, List.length_singleton]; exact h1, hb, Nat.le_trans Hs hg.size, fun b hbb => ?_⟩
  · rcases lastk i u hi with h | ⟨rfl, rfl⟩
    · exact own_kept (Ha i u h) hg (Ow_types (Ha i u h) Hf)
    · rw [hn]
      exact own_kept L1 hg (Ow_types L1 Hf)
  · rcases lastk i u hi with h | ⟨rfl, rfl⟩
    · exact Hd1 i u v h hv
    · rcases L2 with ⟨g', c, hk2, hl⟩ | ⟨v', hk2, h0, hl⟩ | ⟨b, hl, hbS⟩
      · rw [hv] at hk2
        injection hk2 with hk2
        subst hk2 hl
        exact .inl rfl
      · rw [hv] at hk2
        injection hk2 with hk2
        subst hk2
        exact .inl (by rw [hl, h0])
      · exact .inr ⟨b, hl, hbS⟩
  · rcases lastk i u hi with h | ⟨rfl, rfl⟩
    · rcases lastk j u' hj with h' | ⟨rfl, rfl⟩
      · exact Hd2 i j u u' hij h h'
      · rcases L3 i u h with h2 | h2
        · cases hu : u.ownBlock
          · exact .inl rfl
          · exact .inr (by rw [h2]; simp)
        · exact .inr (fun e => h2 e.symm)
    · rcases lastk j u' hj with h' | ⟨rfl, rfl⟩
      · exact L3 j u' h'
      · exact absurd rfl hij
  · rw [hg.block b0 (by omega) (fun e => by have := Hv6 b0 e.symm; omega)]
    exact Hh
  · rcases hat with h | ⟨b', h, hb'⟩
    · exact Hv6 b (by rw [← h]; exact hbb)
    · rw [h] at hbb
      injection hbb with hbb
      omega
def lenV : Value → Nat
  | .slice _ n _ => n
  | _ => 0

end Go.Proofs.Ytdfkecfmmcdgiaa.Hp
