/- Contracts of functions of the given program, and what they lean on: written by this session's own program, out of hand texts laid into the kit's printer. -/
import Derived.ArgAppend
import Derived.Deep.DeepAppendRoom
import Derived.Test.YtdehifinipmmcaaHp0
import Derived.Test.YtdehifinipmmcaaHg1
import Derived.Test.YtdehifinipmmcaaHg3
namespace Go.Proofs.Ytdehifinipmmcaa.Hp
open Go.RowKit Go.Proofs.YtdehifinipmmcaaW.PrintWords Go.Proofs.YtdehifinipmmcaaW.PrintLast Go.Proofs.YtdehifinipmmcaaW.PrintMore
attribute [local go_sem] max2_int min2_int max_two min_two max_three min_three max_four min_four   -- for this text's walks alone
set_option linter.unusedVariables false
set_option linter.unusedSimpArgs false

/-! ### laminanum_Kept: function 13 -/
/-- The bytes are read out of a copy with marks. -/
theorem Kp_C {w : World} {base g cap : Nat} {ok : Nat → Prop} {l : List Int} (h : Kd.R (Kd.int .u8) 5 w base ok (.slice (some ⟨g, 0, none⟩) (l ++ [165, 90]).length cap) (l ++ [165, 90])) :
    Kd.C (Kd.int .u8) w (some ⟨g, 0, none⟩) l.length l ∧ l.length + 2 ≤ cap := by
  obtain ⟨h0, h1, h2⟩ := Kd.R_reads' h
  refine ⟨?_, by simpa using h1⟩
  have := Kd.C_take (m := l.length) h2 (by simp)
  simpa using this
set_option maxRecDepth 100000 in
theorem laminanum_Kept.calls (g cap base : Nat) (ok : Nat → Prop) (A1 : Option Addr) (c1 : Nat) (l : List Int) (w : World)
    (hR : Kd.R (Kd.int .u8) 5 w base ok (.slice (some ⟨g, 0, none⟩) (l ++ [165, 90]).length cap) (l ++ [165, 90])) (hr1 : Kd.C (Kd.int .u8) w A1 l.length l) (hn : l.length ≤ 900000) :
    Calls Try.prog 13 #[.slice (some ⟨g, 0, none⟩) l.length cap, .slice A1 l.length c1] w fun e w' => e = .returned (.bool true) ∧ Drawn0 w w' := by
  obtain ⟨hC, hcap⟩ := Kp_C hR
  have hcv3 := fun c => Kd.C_string (P := Try.prog) (A := some ⟨g, 0, none⟩) (c := c) Try.underlying25 Try.underlying5 Try.underlying9 hC
  have hcv4 := Kd.C_string (P := Try.prog) (A := A1) (c := c1) Try.underlying25 Try.underlying5 Try.underlying9 hr1
  have e0 := (Kd.R_celln (enc := Value.int .u8) (h1 := fun _ => rfl) 0 hR (l.length : Int) (by omega) (by first | (simp; done) | (simp; omega))).1
  have e1 := (Kd.R_celln (enc := Value.int .u8) (h1 := fun _ => rfl) 0 hR ((l.length : Int) + 1) (by omega) (by first | (simp; done) | (simp; omega))).1
  have f0 : rdOf 0 (l ++ [165, 90]) (l.length : Int) = 165 := by simp [rdOf]
  have f1 : rdOf 0 (l ++ [165, 90]) ((l.length : Int) + 1) = 90 := by
    have : ((l.length : Int) + 1).toNat = l.length + 1 := by omega
    simp [rdOf, this]
  rw [f0, Int.toNat_natCast] at e0
  rw [f1, show ((l.length : Int) + 1).toNat = l.length + 1 by omega] at e1
  clear f0 f1
  have HR := Aside0.mk hR
  have HC := Aside0.mk hC
  have HD := Aside0.mk hr1
  clear hR hC hr1
  go_enter Try.func13, Try.ntmps13
  go_wp2
  go_ret
  exact ⟨rfl, Drawn0.refl _⟩

-- AUX appendw
theorem own_kept {w w' : World} {base e : Nat} {v : Value} {n : Nat} {xs : List Value} {row : Option Nat} (h : w.ownsRow base e 1 v n xs) (hg : w.grownBy w' row) (hne : v.ownBlock = none ∨ v.ownBlock ≠ row) : w'.ownsRow base e 1 v n xs := by
  refine ⟨h.1, ?_⟩
  rcases h.2 with h0 | ⟨g, cap, cur, rfl, hb, hh, h3⟩
  · exact .inl h0
  · have hlt : g < w.heap.size := by
      rcases Nat.lt_or_ge g w.heap.size with h4 | h4
      · exact h4
      · rw [Array.getElem?_eq_none h4] at hh; cases hh
    refine .inr ⟨g, cap, cur, rfl, hb, ?_, h3⟩
    have h6 : some g ≠ row := by
      rcases hne with h5 | h5
      · cases h5
      · exact h5
    rw [hg.block g hlt h6]
    exact hh
section
variable {P : Program} {ops : Array Oper} {rest : List Oper} {o : Oper} {a : Act} {Q : Exit → Act → World → Prop}
theorem app_exact {w0 W : World} (base : Nat) (hgd : o.guard = none) (s x : Operand) (t e : TypeId) (z : Value) (bytes : Nat)
    (ho : o.op = .call { callee := .builtin .append, args := #[s, x], argTypes := #[t, t] })
    (ht : P.underlying t = some (.slice e)) (hinfo : (P.info? e).map (fun i => (i.zero, i.size, i.bytes)) = some (some z, 1, bytes)) (hz : z.cells.size = 1) (hb0 : 0 < bytes)
    (v : Value) (n : Nat) (xs : List Value) (y : Value) (hs : a.eval s = v) (hx : a.eval x = .slice (some ⟨W.heap.size, 0, none⟩) 1 1) (h1 : y.oneCell' = true)
    (HO : W.ownsRow base e 1 v n xs) (HB : Below base w0 W) (hbase : base ≤ W.heap.size) (hl : (n + 1) * bytes ≤ 140737488355328)
    (h : ∀ v1 w1, w1.ownsRow base e 1 v1 (n + 1) (xs ++ [y]) → Below base w0 w1 →
      ((∃ g cap, v = .slice (some ⟨g, 0, none⟩) n cap ∧ v1 = .slice (some ⟨g, 0, none⟩) (n + 1) cap ∧ W.grownBy w1 (some g)) ∨ ((∃ b, v1.ownBlock = some b ∧ W.heap.size ≤ b) ∧ W.grownBy w1 none)) → wpList P ops Q rest (a.put o.dst v1) w1) :
    wpList P ops Q (o :: rest) a (W.alloc (.cells #[y] e)) := by
  have key : ∀ v1 w1, (Builtin.append_ #[t, t] o.type #[v, .slice (some ⟨W.heap.size, 0, none⟩) 1 1]).run P (W.alloc (.cells #[y] e)) = .ok v1 w1 → wpList P ops Q rest (a.put o.dst v1) w1 → wpList P ops Q (o :: rest) a (W.alloc (.cells #[y] e)) := by
    intro v1 w1 hr hk
    refine wpList_plain hgd fun K hK => ?_
    unfold Oper.wp execOp
    simp only [ho, resolve, invoke, builtin, Sem.run_bind, Sem.run_pure, Result.andThen_ok, List.map_toArray, List.map_cons, List.map_nil, hs, hx, hr]
    exact hK _ _ hk
  rcases HO.2 with ⟨rfl, rfl⟩ | ⟨g, cap, cur, rfl, hbg, hg, hnc, hcm, hcs, htake⟩
  · refine print_append_cells (w0 := w0) base hgd s x t e z 1 bytes ho ht hinfo hz (by omega) hb0 _ 0 xs [y] hs hx rfl (by simpa using h1) HO HB hbase hl ?_
    intro v1 w1 hown hb hgr hat
    refine h v1 w1 hown hb (.inr ⟨?_, hgr⟩)
    rcases hat with hat | hat
    · obtain ⟨g, cap, he, _⟩ := hown.form (by omega)
      rw [he] at hat
      cases hat
    · exact hat
  · obtain ⟨i0, hi, hzz⟩ := Option.map_eq_some_iff.1 hinfo
    simp only [Prod.mk.injEq] at hzz
    obtain ⟨hz0, hz1, hz2⟩ := hzz
    have hnews : ∀ j u, [y][j]? = some u → (W.alloc (.cells #[y] e)).cell? ((⟨W.heap.size, 0, none⟩ : Addr).add j) = some u := by
      simpa using World.news_of_block (cs := #[y]) (t := e) (fr := (0, 0)) (heap_alloc_new W (.cells #[y] e))
    by_cases hroom : n + 1 ≤ cap
    · obtain ⟨w1, hr, hown, hgr⟩ := run_append_own_spare (P := P) (W.alloc (.cells #[y] e)) base t o.type e i0 1 ht hi hz1 g n cap xs (HO.alloc _) ⟨W.heap.size, 0, none⟩ 1 1 [y] rfl hnews (by simpa using h1) hroom
      refine key _ _ hr (h _ _ hown ((HB.alloc hbase _).grown hgr (by simp; omega) (fun k hk => by injection hk with hk; subst hk; exact hbg)) (.inl ⟨g, cap, rfl, rfl, World.grownBy.trans (World.grownBy_alloc W _ _) hgr⟩))
    · have hlen : n + 1 ≤ 140737488355328 := Nat.le_trans (Nat.le_mul_of_pos_right _ hb0) hl
      obtain ⟨v1, w1, hr, hown, hgr⟩ := run_append_arg_grows (P := P) (W.alloc (.cells #[y] e)) t o.type e i0 z 1 bytes ht hi hz0 hz1 hz2 hz (by omega) ⟨g, 0, none⟩ n cap xs HO.1 ((HO.alloc _).cells (g := g) rfl) ⟨W.heap.size, 0, none⟩ 1 1 [y] rfl hnews (by omega) (by simp only [maxLen]; omega) hl
      have hown2 : w1.ownsRow base e 1 v1 (n + 1) (xs ++ [y]) := own_weaken hown (by simp; omega)
      obtain ⟨g2, cap2, he, hb2, hl2⟩ := hown.form (by omega)
      refine key _ _ hr (h _ _ hown2 ((HB.alloc hbase _).grown hgr (by simp; omega) (fun k hk => by cases hk)) (.inr ⟨⟨g2, by rw [he]; rfl, by simp at hb2; omega⟩, World.grownBy.trans (World.grownBy_alloc W _ _) hgr⟩))
end

-- AUX apartw
/-- One own row of bytes. -/
abbrev Ow (w : World) (base : Nat) (v : Value) (xs : List Int) : Prop := w.ownsRow base 5 1 v xs.length (encs (Value.int .u8) xs)
def pat (i n : Nat) : List Int := (List.range n).map fun j : Nat => (31 * (i : Int) + 3 * (j : Int) + 1) % 256
def patO (i : Nat) (xs : List Int) (j : Nat) : List Int := pat i j ++ xs.drop j
theorem pat_len (i n : Nat) : (pat i n).length = n := by simp [pat]
theorem patO_len (i : Nat) (xs : List Int) (j : Nat) (h : j ≤ xs.length) : (patO i xs j).length = xs.length := by simp [patO, pat_len]; omega
theorem pat_succ (i n : Nat) : pat i (n + 1) = pat i n ++ [(31 * (i : Int) + 3 * (n : Int) + 1) % 256] := by
  unfold pat
  rw [List.range_succ, List.map_append, List.map_singleton]
theorem patO_step (i : Nat) (xs : List Int) (j : Nat) (h : j < xs.length) : (patO i xs j).set j ((31 * (i : Int) + 3 * (j : Int) + 1) % 256) = patO i xs (j + 1) := by
  unfold patO
  rw [List.set_append_right _ _ (by rw [pat_len]; omega), pat_len, Nat.sub_self, List.drop_eq_getElem_cons h, List.set_cons_zero, pat_succ, List.append_assoc, List.singleton_append]
theorem patO_zero (i : Nat) (xs : List Int) : patO i xs 0 = xs := by simp [patO, pat]
theorem patO_all (i : Nat) (xs : List Int) : patO i xs xs.length = pat i xs.length := by simp [patO]
theorem pat_take (i n m : Nat) (h : m ≤ n) : (pat i n).take m = pat i m := by
  unfold pat
  rw [← List.map_take, List.take_range, Nat.min_eq_left h]
theorem pat_get (i n j : Nat) (h : j < n) : rd (pat i n) j = (31 * (i : Int) + 3 * (j : Int) + 1) % 256 := by
  show (pat i n).getD (j : Int).toNat 0 = _
  rw [Int.toNat_natCast, List.getD_eq_getElem?_getD]
  simp [pat, h]
theorem Ow_R {w : World} {base : Nat} {v : Value} {xs : List Int} (h : Ow w base v xs) : Kd.R (Kd.int .u8) 5 w base (fun _ => True) v xs := Kd.R_of_own (enc := Value.int .u8) (h1 := fun _ => rfl) h (fun _ _ => trivial)
theorem R_Ow {w : World} {base : Nat} {ok : Nat → Prop} {v : Value} {xs : List Int} (h : Kd.R (Kd.int .u8) 5 w base ok v xs) : Ow w base v xs := Kd.own_of_R (enc := Value.int .u8) (h1 := fun _ => rfl) h
/-- What phase one has made of row i. -/
def ph1 (xss : Nat → List Int) (k j i : Nat) : List Int := if i < k then pat i (xss i).length else if i = k then patO i (xss i) j else xss i
theorem ph1_len (xss : Nat → List Int) (k j i : Nat) (hj : j ≤ (xss k).length) : (ph1 xss k j i).length = (xss i).length := by
  unfold ph1
  split
  · rw [pat_len]
  · split
    · rename_i h; subst h; rw [patO_len _ _ _ hj]
    · rfl
theorem ph1_other (xss : Nat → List Int) (k j j' i : Nat) (h : i ≠ k) : ph1 xss k j i = ph1 xss k j' i := by
  unfold ph1
  rw [if_neg h, if_neg h]
theorem ph1_next (xss : Nat → List Int) (k i : Nat) : ph1 xss k (xss k).length i = ph1 xss (k + 1) 0 i := by
  unfold ph1
  by_cases h1 : i < k
  · rw [if_pos h1, if_pos (by omega)]
  · rw [if_neg h1]
    by_cases h2 : i = k
    · subst h2
      rw [if_pos rfl, if_pos (by omega), patO_all]
    · rw [if_neg h2, if_neg (by omega)]
      split
      · rw [patO_zero]
      · rfl
theorem ph1_store {vs : List Value} {xss : Nat → List Int} {wr : World} {base k j g n c : Nat} (HO : ∀ (i : Nat) (v : Value), vs[i]? = some v → Ow wr base v (ph1 xss k j i)) (hv : vs[k]? = some (.slice (some ⟨g, 0, none⟩) n c)) (hn : (xss k).length = n) (hj : j < n)
    (hd : ∀ (i j : Nat) (u v : Value), i ≠ j → vs[i]? = some u → vs[j]? = some v → u.ownBlock = none ∨ u.ownBlock ≠ v.ownBlock) :
    (∀ (i : Nat) (v : Value), vs[i]? = some v → Ow (wr.setCell ⟨g, j, none⟩ (.int .u8 ((31 * (k : Int) + 3 * (j : Int) + 1) % 256))) base v (ph1 xss k (j + 1) i)) ∧ wr.grownBy (wr.setCell ⟨g, j, none⟩ (.int .u8 ((31 * (k : Int) + 3 * (j : Int) + 1) % 256))) (some g) := by
  have hk := HO k _ hv
  have hlen : (ph1 xss k j k).length = n := by rw [ph1_len xss k j k (by omega), hn]
  have hR := Ow_R hk
  have e : ph1 xss k j k = patO k (xss k) j := by unfold ph1; rw [if_neg (by omega), if_pos rfl]
  have e2 : ph1 xss k (j + 1) k = patO k (xss k) (j + 1) := by unfold ph1; rw [if_neg (by omega), if_pos rfl]
  subst hlen
  have hP := Kd.R_putg (enc := Value.int .u8) (h1 := fun _ => rfl) hR (j : Int) ((31 * (k : Int) + 3 * (j : Int) + 1) % 256)
  rw [Int.toNat_natCast] at hP
  refine ⟨fun i v hi => ?_, hP.2⟩
  by_cases hik : i = k
  · subst hik
    rw [hv] at hi
    injection hi with hi
    subst hi
    rw [e2, ← patO_step i (xss i) j (by omega), ← e]
    exact R_Ow hP.1
  · rw [ph1_other xss k (j + 1) j i hik]
    refine own_kept (HO i v hi) hP.2 ?_
    rcases hd i k _ _ hik hi hv with h | h
    · exact .inl h
    · exact .inr h
/-- Rows of bytes are none of the rows of slices. -/
theorem Ow_types {w : World} {base b2 n : Nat} {u v : Value} {xs : List Int} {ys : List Value} (h : Ow w base u xs) (h2 : w.ownsRow b2 25 1 v n ys) : u.ownBlock = none ∨ u.ownBlock ≠ v.ownBlock := by
  rcases h.2 with ⟨rfl, _⟩ | ⟨g, cap, cur, rfl, _, hg, _⟩
  · exact .inl rfl
  · right
    exact own_ne h2 hg (by decide)
theorem Ow_lt {w : World} {base : Nat} {u : Value} {xs : List Int} (h : Ow w base u xs) : ∀ b, u.ownBlock = some b → b < w.heap.size := fun b hb => (World.ownsRow.lt h b hb).2
/-- What is known while the rows grow: row i of 'us' has grown, 'vs' are as they were. -/
def ph2 (vs : List Value) (xss : Nat → List Int) (b0 base S : Nat) (w wr : World) (us : List Value) (v6 : Value) : Prop :=
  (∀ (i : Nat) (u : Value), us[i]? = some u → Ow wr base u (pat i ((xss i).length + 10))) ∧
  (∀ (i : Nat) (v : Value), vs[i]? = some v → Ow wr base v (pat i (xss i).length)) ∧
  (∀ (i : Nat) (u v : Value), us[i]? = some u → vs[i]? = some v → u.ownBlock = v.ownBlock ∨ ∃ b, u.ownBlock = some b ∧ S ≤ b) ∧
  (∀ (i j : Nat) (u u' : Value), i ≠ j → us[i]? = some u → us[j]? = some u' → u.ownBlock = none ∨ u.ownBlock ≠ u'.ownBlock) ∧
  wr.heap[b0]? = some (.cells vs.toArray 25 (0, 0)) ∧ wr.ownsRow base 25 1 v6 us.length us ∧ Below base w wr ∧ S ≤ wr.heap.size ∧ (∀ b, v6.ownBlock = some b → S ≤ b)
/-- The row k that grows: m bytes so far. -/
def ph2l (vs us : List Value) (S base n : Nat) (wr : World) (k m : Nat) (l : Value) : Prop :=
  Ow wr base l (pat k m) ∧
  ((∃ g c, vs[k]? = some (.slice (some ⟨g, 0, none⟩) n c) ∧ l = .slice (some ⟨g, 0, none⟩) m c) ∨ (∃ v, vs[k]? = some v ∧ v.ownBlock = none ∧ l.ownBlock = none) ∨ (∃ b, l.ownBlock = some b ∧ S ≤ b)) ∧
  (∀ (i : Nat) (u : Value), us[i]? = some u → l.ownBlock = none ∨ l.ownBlock ≠ u.ownBlock)
theorem nokept (o : Option Nat) : o = none ∨ o ≠ none := by
  cases o
  · exact .inl rfl
  · exact .inr (by simp)
theorem encs_pat (k m : Nat) : encs (Value.int .u8) (pat k (m + 1)) = encs (Value.int .u8) (pat k m) ++ [.int .u8 ((31 * (k : Int) + 3 * (m : Int) + 1) % 256)] := by
  rw [pat_succ]
  simp [encs]
theorem ph2_app {vs us : List Value} {xss : Nat → List Int} {b0 base S n k m : Nat} {w W w1 : World} {v6 l v1 : Value} (H : ph2 vs xss b0 base S w W us v6) (L : ph2l vs us S base n W k m l) (hn : (xss k).length = n) (hnm : n ≤ m)
    (hS : ∀ (i : Nat) (v : Value) (b : Nat), vs[i]? = some v → v.ownBlock = some b → b < S) (hd : ∀ (i j : Nat) (u v : Value), i ≠ j → vs[i]? = some u → vs[j]? = some v → u.ownBlock = none ∨ u.ownBlock ≠ v.ownBlock) (hb0 : b0 < S)
    (h1 : w1.ownsRow base 5 1 v1 (m + 1) (encs (Value.int .u8) (pat k m) ++ [.int .u8 ((31 * (k : Int) + 3 * (m : Int) + 1) % 256)])) (hb : Below base w w1)
    (hg : (∃ g cap, l = .slice (some ⟨g, 0, none⟩) m cap ∧ v1 = .slice (some ⟨g, 0, none⟩) (m + 1) cap ∧ W.grownBy w1 (some g)) ∨ ((∃ b, v1.ownBlock = some b ∧ W.heap.size ≤ b) ∧ W.grownBy w1 none)) :
    ph2 vs xss b0 base S w w1 us v6 ∧ ph2l vs us S base n w1 k (m + 1) v1 := by
  obtain ⟨Ha, Hc, Hd1, Hd2, Hh, Hf, _, Hs, Hv6⟩ := H
  obtain ⟨L1, L2, L3⟩ := L
  rw [← encs_pat] at h1
  have hOw : Ow w1 base v1 (pat k (m + 1)) := by
    show w1.ownsRow base 5 1 v1 (pat k (m + 1)).length _
    rw [pat_len]
    exact h1
  rcases hg with ⟨g, cap, rfl, rfl, hg⟩ | ⟨⟨b, hvb, hbb⟩, hg⟩
  · have hlb : (Value.slice (some ⟨g, 0, none⟩) m cap).ownBlock = some g := rfl
    have hlb1 : (Value.slice (some ⟨g, 0, none⟩) (m + 1) cap).ownBlock = some g := rfl
    refine ⟨⟨fun i u hi => own_kept (Ha i u hi) hg ?_, fun i v hi => ?_, Hd1, Hd2, ?_, own_kept Hf hg ?_, hb, Nat.le_trans Hs hg.size, Hv6⟩, hOw, ?_, fun i u hi => ?_⟩
    · rcases L3 i u hi with h | h
      · cases h
      · exact .inr (fun e => h (by rw [hlb, e]))
    · by_cases hv : v.ownBlock = some g
      · rcases L2 with ⟨g', c, hk, hl⟩ | ⟨v', hk, _, hl⟩ | ⟨b, hl, hbS⟩
        · injection hl with hA _ hcc
          injection hA with hA
          injection hA with hA
          subst hA hcc
          by_cases hik : i = k
          · subst hik
            rw [hk] at hi
            injection hi with hi
            subst hi
            rcases hOw.2 with ⟨h0, _⟩ | ⟨g2, cap2, cur, he, hbg, hhg, hnc, hcm, hcs, htk⟩
            · cases h0
            · injection he with hA2 _ hcc2
              injection hA2 with hA2
              injection hA2 with hA2
              subst hA2 hcc2
              rw [pat_len] at hnc htk
              refine ⟨by rw [encs_length, Nat.mul_one], .inr ⟨g, cap, cur, ?_, hbg, hhg, ?_, hcm, hcs, ?_⟩⟩
              · rw [pat_len, hn]
              · rw [pat_len]; omega
              · have := congrArg (List.take n) htk
                rw [List.take_take, Nat.min_eq_left (by omega)] at this
                rw [pat_len, Nat.mul_one, hn, this]
                unfold encs
                rw [← List.map_take, pat_take _ _ _ (by omega)]
          · rcases hd i k v _ hik hi hk with h | h
            · rw [hv] at h; cases h
            · exact absurd hv h
        · cases hl
        · rw [hlb] at hl
          injection hl with hl
          subst hl
          have := hS i v g hi hv
          omega
      · exact own_kept (Hc i v hi) hg (.inr hv)
    · rw [hg.block b0 (by omega) (own_ne L1 Hh (by decide))]
      exact Hh
    · rcases Ow_types L1 Hf with h | h
      · cases h
      · exact .inr (fun e => h (by rw [hlb, e]))
    · rcases L2 with ⟨g', c, hk, hl⟩ | ⟨v', hk, _, hl⟩ | ⟨b, hl, hbS⟩
      · injection hl with hA _ hcc
        subst hcc
        exact .inl ⟨g', cap, hk, by rw [hA]⟩
      · cases hl
      · exact .inr (.inr ⟨b, hl, hbS⟩)
    · exact L3 i u hi
  · refine ⟨⟨fun i u hi => own_kept (Ha i u hi) hg (nokept _), fun i v hi => own_kept (Hc i v hi) hg (nokept _), Hd1, Hd2, ?_, own_kept Hf hg (nokept _), hb, Nat.le_trans Hs hg.size, Hv6⟩, hOw, .inr (.inr ⟨b, hvb, by omega⟩), fun i u hi => .inr ?_⟩
    · rw [hg.block b0 (by omega) (by simp)]
      exact Hh
    · rw [hvb]
      intro e
      have := Ow_lt (Ha i u hi) b e.symm
      omega
theorem ph2_push {vs us : List Value} {xss : Nat → List Int} {b0 base S n k : Nat} {w W w1 : World} {v6 l v1 : Value} (H : ph2 vs xss b0 base S w W us v6) (L : ph2l vs us S base n W k (n + 10) l) (hk : us.length = k) (hn : (xss k).length = n)
    (hb0 : b0 < S) (h1 : w1.ownsRow base 25 1 v1 (us.length + 1) (us ++ [l])) (hb : Below base w w1) (hg : W.grownBy w1 v6.ownBlock) (hat : v1.ownBlock = v6.ownBlock ∨ ∃ b, v1.ownBlock = some b ∧ W.heap.size ≤ b) :
    ph2 vs xss b0 base S w w1 (us ++ [l]) v1 := by
  obtain ⟨Ha, Hc, Hd1, Hd2, Hh, Hf, _, Hs, Hv6⟩ := H
  obtain ⟨L1, L2, L3⟩ := L
  have lastk : ∀ (i : Nat) (u : Value), (us ++ [l])[i]? = some u → us[i]? = some u ∨ (i = k ∧ u = l) := by
    intro i u hi
    rcases Nat.lt_or_ge i us.length with h | h
    · rw [List.getElem?_append_left h] at hi
      exact .inl hi
    · rw [List.getElem?_append_right h] at hi
      rcases hq : i - us.length with _ | q
      · rw [hq] at hi
        simp at hi
        exact .inr ⟨by omega, hi.symm⟩
      · rw [hq] at hi
        simp at hi
  refine ⟨fun i u hi => ?_, fun i v hi => own_kept (Hc i v hi) hg (Ow_types (Hc i v hi) Hf), fun i u v hi hv => ?_, fun i j u u' hij hi hj => ?_, ?_, by rw [List.length_append, List.length_singleton]; exact h1, hb, Nat.le_trans Hs hg.size, fun b hbb => ?_⟩
  · rcases lastk i u hi with h | ⟨rfl, rfl⟩
    · exact own_kept (Ha i u h) hg (Ow_types (Ha i u h) Hf)
    · rw [hn]
      exact own_kept L1 hg (Ow_types L1 Hf)
  · rcases lastk i u hi with h | ⟨rfl, rfl⟩
    · exact Hd1 i u v h hv
    · rcases L2 with ⟨g', c, hk2, hl⟩ | ⟨v', hk2, h0, hl⟩ | ⟨b, hl, hbS⟩
      · rw [hv] at hk2
        injection hk2 with hk2
        subst hk2 hl
        exact .inl rfl
      · rw [hv] at hk2
        injection hk2 with hk2
        subst hk2
        exact .inl (by rw [hl, h0])
      · exact .inr ⟨b, hl, hbS⟩
  · rcases lastk i u hi with h | ⟨rfl, rfl⟩
    · rcases lastk j u' hj with h' | ⟨rfl, rfl⟩
      · exact Hd2 i j u u' hij h h'
      · rcases L3 i u h with h2 | h2
        · cases hu : u.ownBlock
          · exact .inl rfl
          · exact .inr (by rw [h2]; simp)
        · exact .inr (fun e => h2 e.symm)
    · rcases lastk j u' hj with h' | ⟨rfl, rfl⟩
      · exact L3 j u' h'
      · exact absurd rfl hij
  · rw [hg.block b0 (by omega) (fun e => by have := Hv6 b0 e.symm; omega)]
    exact Hh
  · rcases hat with h | ⟨b', h, hb'⟩
    · exact Hv6 b (by rw [← h]; exact hbb)
    · rw [h] at hbb
      injection hbb with hbb
      omega
def lenV : Value → Nat
  | .slice _ n _ => n
  | _ => 0

/-! ### laminanum_Num: function 32 -/
def laminanum_Num.f (a0 : Option Int) : Option (Int) := if a0.isNone = true then (some 0) else (if (a0.getD 0) = 0 then (some (-1)) else (some (a0.getD 0)))
set_option maxHeartbeats 8000000 in
set_option maxRecDepth 100000 in
theorem laminanum_Num.calls (a0 : Option Int) (r : Int) (w : World) (h : laminanum_Num.f a0 = some r) :
    Calls Try.prog 32 #[errW a0] w fun e w' => e = .returned (.int .i64 r) ∧ Drawn0 w w' := by
  have hu30 := Try.underlying30
  have hu39 := Try.underlying39
  have hta : ∀ (v : Value) (W : World), (Instr.typeAssert (.iface 39 v) 30 39 true).run Try.prog W = .ok (.tuple #[v, .bool true]) W := fun v W => by rfl
  have H : (if a0.isNone = true then (some 0) else (if (a0.getD 0) = 0 then (some (-1)) else (some (a0.getD 0)))) = some r := h
  clear h
  rcases a0 with _ | q125
  · have H1 : (some 0) = some r := by rw [if_pos (show (none : Option Int).isNone = true by rfl)] at H; exact H
    clear H
    have H := H1
    clear H1
    simp only [errW_none, errW_some]
    obtain rfl := Option.some.inj H
    go_enter Try.func32, Try.ntmps32
    go_wp2
    go_ret
    exact ⟨by first | rfl | (simp; done) | (simp [*]; done), by repeat (first | exact Drawn0.refl _ | apply Drawn0.step)⟩
  · have H1 : (if q125 = 0 then (some (-1)) else (some q125)) = some r := by rw [if_neg (show ¬ (some q125).isNone = true by simp)] at H; exact H
    clear H
    have H := H1
    clear H1
    simp only [errW_none, errW_some]
    by_cases c2 : q125 = 0
    · rw [if_pos c2] at H
      have c2b0 : (q125 == 0) = true := beq_iff_eq.mpr c2
      have c2b1 : (q125 != 0) = false := bne_eq_false_iff_eq.mpr c2
      clear c2
      obtain rfl := Option.some.inj H
      go_enter Try.func32, Try.ntmps32
      go_wp2
      go_ret
      exact ⟨by first | rfl | (simp; done) | (simp [*]; done), by repeat (first | exact Drawn0.refl _ | apply Drawn0.step)⟩
    · rw [if_neg c2] at H
      have c2b0 : (q125 == 0) = false := beq_eq_false_iff_ne.mpr c2
      have c2b1 : (q125 != 0) = true := bne_iff_ne.mpr c2
      obtain rfl := Option.some.inj H
      go_enter Try.func32, Try.ntmps32
      go_wp2
      go_ret
      exact ⟨by first | rfl | (simp; done) | (simp [*]; done), by repeat (first | exact Drawn0.refl _ | apply Drawn0.step)⟩

/-! ### laminanum_Is: function 15 -/
def laminanum_Is.f (a0 : Option Int) (a1 : Int) : Option (Bool) := (laminanum_Num.f a0).bind fun t126 => (some (t126 == a1))
set_option maxHeartbeats 8000000 in
set_option maxRecDepth 100000 in
theorem laminanum_Is.calls (a0 : Option Int) (a1 : Int) (r : Bool) (w : World) (h : laminanum_Is.f a0 a1 = some r) :
    Calls Try.prog 15 #[errW a0, .int .i64 a1] w fun e w' => e = .returned (.bool r) ∧ Drawn0 w w' := by
  have H : ((laminanum_Num.f a0).bind fun t126 => (some (t126 == a1))) = some r := h
  clear h
  replace H := Option.bind_eq_some_iff.mp H
  obtain ⟨t126, A30, H⟩ := H
  replace H : (some (t126 == a1)) = some r := H
  have A3 := Aside0.mk A30
  clear A30
  obtain rfl := Option.some.inj H
  have CA3 := fun W => laminanum_Num.calls a0 t126 W A3.out
  try simp only [errW_none, errW_some] at CA3
  go_enter Try.func15, Try.ntmps15
  go_wp2_with (first | (go_at_call 32; (with_reducible refine (CA3 _).mono ?_); rintro e w' ⟨rfl, ⟨nd, rfl⟩⟩))
  go_ret
  exact ⟨by first | rfl | (simp; done) | (simp [*]; done), by repeat (first | exact Drawn0.refl _ | apply Drawn0.step)⟩

/-! ### laminanum_Same: function 16 -/
def laminanum_Same.f (l0 : List Int) (l1 : List Int) : Option (Bool) := some ((strOfNums l0).toList == (strOfNums l1).toList)
set_option maxHeartbeats 8000000 in
set_option maxRecDepth 100000 in
theorem laminanum_Same.calls (A0 : Option Addr) (c0 : Nat) (l0 : List Int) (A1 : Option Addr) (c1 : Nat) (l1 : List Int) (r : Bool) (w : World) (hr0 : Kd.C (Kd.int .u8) w A0 l0.length l0) (hc0 : l0.length ≤ c0) (hr1 : Kd.C (Kd.int .u8) w A1 l1.length l1) (hc1 : l1.length ≤ c1) (h : laminanum_Same.f l0 l1 = some r) :
    Calls Try.prog 16 #[.slice A0 l0.length c0, .slice A1 l1.length c1] w fun e w' => e = .returned (.bool r) ∧ Drawn0 w w' := by
  have HR0 := Aside0.mk hr0
  have HC0 := Aside0.mk hc0
  clear hr0 hc0
  have HR1 := Aside0.mk hr1
  have HC1 := Aside0.mk hc1
  clear hr1 hc1
  have H : (some ((strOfNums l0).toList == (strOfNums l1).toList)) = some r := h
  clear h
  obtain rfl := Option.some.inj H
  have hcv3 := Kd.C_string (P := Try.prog) (A := A0) (c := c0) Try.underlying25 Try.underlying5 Try.underlying9 HR0.out
  have hcv4 := Kd.C_string (P := Try.prog) (A := A1) (c := c1) Try.underlying25 Try.underlying5 Try.underlying9 HR1.out
  go_enter Try.func16, Try.ntmps16
  go_wp2
  go_ret
  exact ⟨by first | rfl | (simp; done) | (simp [*]; done), by repeat (first | exact Drawn0.refl _ | apply Drawn0.step)⟩

/-! ### laminaref12_Good: function 20 -/
def laminaref12_Good.f (a0 : Int) (a1 : Int) : Option (Bool) := if a0 ≥ 0 then (if a0 ≤ 4096 then (if a1 = 16 then (some true) else (if a1 = 32 then (some true) else (if a1 = 64 then (some true) else (if a1 = 128 then (some true) else (some (a1 == 256)))))) else (some false)) else (some false)
set_option maxHeartbeats 8000000 in
set_option maxRecDepth 100000 in
theorem laminaref12_Good.calls (a0 : Int) (a1 : Int) (r : Bool) (w : World) (h : laminaref12_Good.f a0 a1 = some r) :
    Calls Try.prog 20 #[.int .i64 a0, .int .i64 a1] w fun e w' => e = .returned (.bool r) ∧ Drawn0 w w' := by
  have H : (if a0 ≥ 0 then (if a0 ≤ 4096 then (if a1 = 16 then (some true) else (if a1 = 32 then (some true) else (if a1 = 64 then (some true) else (if a1 = 128 then (some true) else (some (a1 == 256)))))) else (some false)) else (some false)) = some r := h
  clear h
  by_cases c3 : a0 ≥ 0
  · rw [if_pos c3] at H
    have c3b0 : decide (0 ≤ a0) = true := decide_eq_true c3
    clear c3
    by_cases c4 : a0 ≤ 4096
    · rw [if_pos c4] at H
      have c4b0 : decide (a0 ≤ 4096) = true := decide_eq_true c4
      clear c4
      by_cases c5 : a1 = 16
      · rw [if_pos c5] at H
        have c5b0 : (a1 == 16) = true := beq_iff_eq.mpr c5
        have c5b1 : (a1 != 16) = false := bne_eq_false_iff_eq.mpr c5
        clear c5
        obtain rfl := Option.some.inj H
        go_enter Try.func20, Try.ntmps20
        go_wp2
        go_ret
        exact ⟨by first | rfl | (simp; done) | (simp [*]; done), by repeat (first | exact Drawn0.refl _ | apply Drawn0.step)⟩
      · rw [if_neg c5] at H
        have c5b0 : (a1 == 16) = false := beq_eq_false_iff_ne.mpr c5
        have c5b1 : (a1 != 16) = true := bne_iff_ne.mpr c5
        by_cases c6 : a1 = 32
        · rw [if_pos c6] at H
          have c6b0 : (a1 == 32) = true := beq_iff_eq.mpr c6
          have c6b1 : (a1 != 32) = false := bne_eq_false_iff_eq.mpr c6
          clear c6
          obtain rfl := Option.some.inj H
          go_enter Try.func20, Try.ntmps20
          go_wp2
          go_ret
          exact ⟨by first | rfl | (simp; done) | (simp [*]; done), by repeat (first | exact Drawn0.refl _ | apply Drawn0.step)⟩
        · rw [if_neg c6] at H
          have c6b0 : (a1 == 32) = false := beq_eq_false_iff_ne.mpr c6
          have c6b1 : (a1 != 32) = true := bne_iff_ne.mpr c6
          by_cases c7 : a1 = 64
          · rw [if_pos c7] at H
            have c7b0 : (a1 == 64) = true := beq_iff_eq.mpr c7
            have c7b1 : (a1 != 64) = false := bne_eq_false_iff_eq.mpr c7
            clear c7
            obtain rfl := Option.some.inj H
            go_enter Try.func20, Try.ntmps20
            go_wp2
            go_ret
            exact ⟨by first | rfl | (simp; done) | (simp [*]; done), by repeat (first | exact Drawn0.refl _ | apply Drawn0.step)⟩
          · rw [if_neg c7] at H
            have c7b0 : (a1 == 64) = false := beq_eq_false_iff_ne.mpr c7
            have c7b1 : (a1 != 64) = true := bne_iff_ne.mpr c7
            by_cases c8 : a1 = 128
            · rw [if_pos c8] at H
              have c8b0 : (a1 == 128) = true := beq_iff_eq.mpr c8
              have c8b1 : (a1 != 128) = false := bne_eq_false_iff_eq.mpr c8
              clear c8
              obtain rfl := Option.some.inj H
              go_enter Try.func20, Try.ntmps20
              go_wp2
              go_ret
              exact ⟨by first | rfl | (simp; done) | (simp [*]; done), by repeat (first | exact Drawn0.refl _ | apply Drawn0.step)⟩
            · rw [if_neg c8] at H
              have c8b0 : (a1 == 128) = false := beq_eq_false_iff_ne.mpr c8
              have c8b1 : (a1 != 128) = true := bne_iff_ne.mpr c8
              obtain rfl := Option.some.inj H
              go_enter Try.func20, Try.ntmps20
              go_wp2
              go_ret
              exact ⟨by first | rfl | (simp; done) | (simp [*]; done), by repeat (first | exact Drawn0.refl _ | apply Drawn0.step)⟩
    · rw [if_neg c4] at H
      have c4b0 : decide (a0 ≤ 4096) = false := decide_eq_false c4
      clear c4
      obtain rfl := Option.some.inj H
      go_enter Try.func20, Try.ntmps20
      go_wp2
      go_ret
      exact ⟨by first | rfl | (simp; done) | (simp [*]; done), by repeat (first | exact Drawn0.refl _ | apply Drawn0.step)⟩
  · rw [if_neg c3] at H
    have c3b0 : decide (0 ≤ a0) = false := decide_eq_false c3
    clear c3
    obtain rfl := Option.some.inj H
    go_enter Try.func20, Try.ntmps20
    go_wp2
    go_ret
    exact ⟨by first | rfl | (simp; done) | (simp [*]; done), by repeat (first | exact Drawn0.refl _ | apply Drawn0.step)⟩

/-! ### wire_Writer_Out: function 41 -/
theorem wire_Writer_Out.calls (S : Nat → Prop) (z : Bool) (h : Value) (l : List Int) (w : World) (hw : Wr w S z h l) (hl : l.length < 140737488355328) :
    Calls Try.prog 41 #[h] w fun e w' => ∃ v, e = .returned v ∧ Kd.R (Kd.int .u8) 5 w' w.heap.size (fun _ => True) v l ∧ Below w.heap.size w w' := by
  rcases hw with ⟨rfl, rfl, rfl⟩ | ⟨rfl, p, v, rfl, hp, hb, hR⟩
  · go_enter Try.func41, Try.ntmps41
    go_wp2
    go_ret
    exact ⟨_, rfl, Kd.R_nil _ _ _ _ _, Below.refl _ _⟩
  · have hcell : w.cell? ⟨p, 0, none⟩ = some v := by rw [cell_of hb]; rfl
    obtain ⟨A, c, rfl, -⟩ := Kd.R_reads hR
    have HC := Aside0.mk (Kd.R_reads' hR).2.2
    clear hb hR
    go_enter Try.func41, Try.ntmps41
    go_wp2_with fail
    refine (slices_Clone_byte_byte.own A c l _ HC.out hl).mono ?_
    rintro e w1 ⟨v, rfl, hv, hbl⟩
    obtain ⟨A1, c1, rfl, -⟩ := Kd.R_reads hv
    have HV := Aside0.mk hv
    have HB := Aside0.mk hbl
    clear hv hbl
    go_wp2
    go_ret
    exact ⟨_, rfl, HV.out, HB.out⟩

-- AUX rdr
/-- A struct that reads (type t, at p): what it has left. -/
structure Cur (t : Nat) (w : World) (S : Nat → Prop) (p : Nat) (A : Option Addr) (c : Nat) (l : List Int) (bad : Bool) : Prop where
  str : w.heap[p]? = some (.cells #[.slice A l.length c, .bool bad] t (0, 0))
  len : l.length ≤ c
  row : Rb w S A l
  ne : ¬ S p
  z : bad = true → l = []
  byt : ∀ x ∈ l, 0 ≤ x ∧ x < 256
/-- The row may be written. -/
def Nf (w : World) (A : Option Addr) (l : List Int) : Prop := 0 < l.length → ∀ a, A = some a → a.spot = none ∧ ∃ cs, w.heap[a.block]? = some (.cells cs 5 (0, 0))
theorem Nf.only {w w' : World} {S T : Nat → Prop} {A : Option Addr} {l : List Int} (h : Nf w A l) (r : Rb w S A l) (o : Only w w' T) (hd : ∀ i, S i → ¬ T i) : Nf w' A l := fun hp a ha => by
  obtain ⟨hs, cs, hc⟩ := h hp a ha
  exact ⟨hs, cs, o.same_block hc (hd _ (r.blk hp a ha))⟩
theorem Cur.only {t : Nat} {w w' : World} {S T : Nat → Prop} {p : Nat} {A : Option Addr} {c : Nat} {l : List Int} {bad : Bool} (x : Cur t w S p A c l bad) (o : Only w w' T) (hd : ∀ i, S i → ¬ T i) (hp : ¬ T p) : Cur t w' S p A c l bad :=
  ⟨o.same_block x.str hp, x.len, x.row.only o hd, x.ne, x.z, x.byt⟩
/-- A pointer's block. -/
def Pt (h : Value) : Nat → Prop := fun i => h = .pointer (some ⟨i, 0, none⟩)
/-- What a reader (h; nil: a bad one) has left, in blocks of S. -/
def Rd (w : World) (S : Nat → Prop) (h : Value) (l : List Int) (bad : Bool) : Prop :=
  (h = .pointer none ∧ l = [] ∧ bad = true) ∨ ∃ p A c, h = .pointer (some ⟨p, 0, none⟩) ∧ Cur 101 w S p A c l bad ∧ Nf w A l
theorem Rd.only {w w' : World} {S T : Nat → Prop} {h : Value} {l : List Int} {bad : Bool} (x : Rd w S h l bad) (o : Only w w' T) (hd : ∀ i, S i → ¬ T i) (hp : ∀ i, Pt h i → ¬ T i) : Rd w' S h l bad := by
  rcases x with x | ⟨p, A, c, rfl, x, y⟩
  · exact .inl x
  · exact .inr ⟨p, A, c, rfl, x.only o hd (hp p rfl), y.only x.row o hd⟩
theorem Rd.below {w w' : World} {S : Nat → Prop} {h : Value} {l : List Int} {bad : Bool} (x : Rd w S h l bad) (k : Below w.heap.size w w') : Rd w' S h l bad := x.only (Only.of_below k (fun _ => False)) (fun _ _ h => h) (fun _ _ h => h)
theorem Rd.byt {w : World} {S : Nat → Prop} {h : Value} {l : List Int} {bad : Bool} (x : Rd w S h l bad) : ∀ x ∈ l, 0 ≤ x ∧ x < 256 := by
  rcases x with ⟨_, rfl, _⟩ | ⟨p, A, c, rfl, x, y⟩
  · simp
  · exact x.byt
theorem Rd.z {w : World} {S : Nat → Prop} {h : Value} {l : List Int} {bad : Bool} (x : Rd w S h l bad) : bad = true → l = [] := by
  rcases x with ⟨_, rfl, _⟩ | ⟨p, A, c, rfl, x, y⟩
  · simp
  · exact x.z
theorem Rd.max {w : World} {S : Nat → Prop} {h : Value} {l : List Int} {bad : Bool} (x : Rd w S h l bad) : l.length ≤ 9223372036854775807 := by
  rcases x with ⟨_, rfl, _⟩ | ⟨p, A, c, rfl, x, y⟩
  · simp
  · exact x.row.row.2.1
/-- What a reading call leaves. -/
structure RdTo (w w' : World) (S : Nat → Prop) (h : Value) (l : List Int) (bad : Bool) : Prop where
  rd : Rd w' S h l bad
  only : Only w w' (Pt h)
theorem RdTo.then_ {w w1 w2 : World} {S : Nat → Prop} {h : Value} {l l2 : List Int} {bad bad2 : Bool} (x : RdTo w w1 S h l bad) (y : RdTo w1 w2 S h l2 bad2) : RdTo w w2 S h l2 bad2 := ⟨y.rd, x.only.same y.only⟩
theorem RdTo.refl {w : World} {S : Nat → Prop} {h : Value} {l : List Int} {bad : Bool} (x : Rd w S h l bad) : RdTo w w S h l bad := ⟨x, Only.refl _ _⟩
/-- The cells of a row may have changed, nothing else. -/
structure Seg (w w' : World) (A : Option Addr) (n : Nat) : Prop where
  os : w'.os = w.os
  tape : w'.tape = w.tape
  output : w'.output = w.output
  size : w'.heap.size = w.heap.size
  block : ∀ i, (0 < n → ∀ a, A = some a → i ≠ a.block) → w'.heap[i]? = w.heap[i]?
  cell : ∀ a, A = some a → ∀ p : Addr, p.block = a.block → (∀ j, j < n → p ≠ a.add j) → w'.cell? p = w.cell? p
  kind : ∀ a, A = some a → ∀ cs t, w.heap[a.block]? = some (.cells cs t (0, 0)) → ∃ cs', w'.heap[a.block]? = some (.cells cs' t (0, 0))
theorem Seg.refl (w : World) (A : Option Addr) (n : Nat) : Seg w w A n := ⟨rfl, rfl, rfl, rfl, fun _ _ => rfl, fun _ _ _ _ _ => rfl, fun _ _ cs t h => ⟨cs, h⟩⟩
theorem Seg.only {w w' : World} {S : Nat → Prop} {A : Option Addr} {l : List Int} (x : Seg w w' A l.length) (r : Rb w S A l) : Only w w' S :=
  ⟨x.os, x.tape, x.output, by rw [x.size]; exact Nat.le_refl _, fun i _ hn => x.block i (fun hp a ha e => by subst e; exact hn (r.blk hp a ha))⟩
/-- A reader whose row lies apart from n cells at A. -/
def RdX (w : World) (S : Nat → Prop) (h : Value) (l : List Int) (bad : Bool) (A : Option Addr) (n : Nat) : Prop :=
  (h = .pointer none ∧ l = [] ∧ bad = true) ∨ ∃ p A2 c, h = .pointer (some ⟨p, 0, none⟩) ∧ Cur 101 w S p A2 c l bad ∧ Nf w A2 l ∧ (0 < n → ∀ a, A = some a → p ≠ a.block) ∧ (∀ ad a, A2 = some ad → A = some a → ∀ i, i < n → ∀ j, j < l.length → ad.add j ≠ a.add i)
theorem RdX.rd {w : World} {S : Nat → Prop} {h : Value} {l : List Int} {bad : Bool} {A : Option Addr} {n : Nat} (x : RdX w S h l bad A n) : Rd w S h l bad := by
  rcases x with x | ⟨p, A2, c, rfl, x, y, _⟩
  · exact .inl x
  · exact .inr ⟨p, A2, c, rfl, x, y⟩
theorem RdX.only {w w' : World} {S T : Nat → Prop} {h : Value} {l : List Int} {bad : Bool} {A : Option Addr} {n : Nat} (x : RdX w S h l bad A n) (o : Only w w' T) (hd : ∀ i, S i → ¬ T i) (hp : ∀ i, Pt h i → ¬ T i) : RdX w' S h l bad A n := by
  rcases x with x | ⟨p, A2, c, rfl, x, y, z1, z2⟩
  · exact .inl x
  · exact .inr ⟨p, A2, c, rfl, x.only o hd (hp p rfl), y.only x.row o hd, z1, z2⟩
theorem RdX.seg {w w' : World} {S : Nat → Prop} {h : Value} {l : List Int} {bad : Bool} {A : Option Addr} {n : Nat} (x : RdX w S h l bad A n) (sg : Seg w w' A n) : Rd w' S h l bad := by
  rcases x with x | ⟨p, A2, c, rfl, x, y, z1, z2⟩
  · exact .inl x
  · refine .inr ⟨p, A2, c, rfl, ⟨(sg.block p z1).trans x.str, x.len, ⟨C_cells_mono x.row.row (fun ad j he hj => ?_), x.row.blk⟩, x.ne, x.z, x.byt⟩, fun hp a ha => ?_⟩
    · rcases A with _ | a0
      · exact cell_same (sg.block ad.block (fun _ a h => by cases h)) _ (add_blk ad j)
      · by_cases hb : ad.block = a0.block
        · exact sg.cell a0 rfl _ (by rw [add_blk]; exact hb) (fun i hi e => z2 ad a0 he rfl i hi j hj e)
        · exact cell_same (sg.block ad.block (fun _ a h => by cases h; exact hb)) _ (add_blk ad j)
    · obtain ⟨q1, cs, q2⟩ := y hp a ha
      refine ⟨q1, ?_⟩
      rcases A with _ | a0
      · exact ⟨cs, (sg.block a.block (fun _ a h => by cases h)).trans q2⟩
      · by_cases hb : a.block = a0.block
        · rw [hb] at q2 ⊢
          exact sg.kind a0 rfl cs _ q2
        · exact ⟨cs, (sg.block a.block (fun _ a h => by cases h; exact hb)).trans q2⟩
/-- The parts of a row: what is taken, and what is left. -/
def tkS (n : Int) (l : List Int) (bad : Bool) : Option (List Int × List Int) := if bad = false ∧ 0 ≤ n ∧ n ≤ l.length then some (l.take n.toNat, l.drop n.toNat) else none
theorem tkS_some {n : Int} {l b r : List Int} {bad : Bool} (h : tkS n l bad = some (b, r)) : bad = false ∧ 0 ≤ n ∧ n ≤ l.length ∧ b = l.take n.toNat ∧ r = l.drop n.toNat := by
  unfold tkS at h
  split at h
  · rename_i hc
    simp only [Option.some.injEq, Prod.mk.injEq] at h
    exact ⟨hc.1, hc.2.1, hc.2.2, h.1.symm, h.2.symm⟩
  · cases h
theorem tkS_none {n : Int} {l : List Int} {bad : Bool} (h : tkS n l bad = none) : bad = true ∨ n < 0 ∨ n > l.length := by
  unfold tkS at h
  split at h
  · cases h
  · rename_i hc
    cases bad
    · simp only [true_and] at hc
      omega
    · exact .inl rfl
def byteS (l : List Int) (bad : Bool) : Int × List Int × Bool := match tkS 1 l bad with
  | some (b, r) => (rd b 0, r, false)
  | none => (0, [], true)
def sumN (b : List Int) : Nat → Int
  | 0 => 0
  | k + 1 => sumN b k + rd b k * 2 ^ (8 * k)
def unL (b : List Int) : Int := wrap64 (sumN b 8)
def numS (l : List Int) (bad : Bool) : Int × List Int × Bool := match tkS 8 l bad with
  | some (b, r) => (unL b, r, false)
  | none => (0, [], true)
def flagS (l : List Int) (bad : Bool) : Bool × List Int × Bool := if (byteS l bad).1 > 1 then (false, [], true) else (decide ((byteS l bad).1 = 1), (byteS l bad).2.1, (byteS l bad).2.2)
def bytesS (l : List Int) (bad : Bool) : List Int × List Int × Bool := match tkS (numS l bad).1 (numS l bad).2.1 (numS l bad).2.2 with
  | some (b, r) => (b, r, false)
  | none => ([], [], true)
def numsR : Nat → List Int → Bool → List Int × List Int × Bool
  | 0, l, bad => ([], l, bad)
  | k + 1, l, bad => ((numsR k l bad).1 ++ [(numS (numsR k l bad).2.1 (numsR k l bad).2.2).1], (numS (numsR k l bad).2.1 (numsR k l bad).2.2).2)
def numsS (l : List Int) (bad : Bool) : List Int × List Int × Bool :=
  if (numS l bad).1 < 0 ∨ (numS l bad).1 > (numS l bad).2.1.length / 8 then ([], [], true) else numsR (numS l bad).1.toNat (numS l bad).2.1 (numS l bad).2.2

/-! ### wire_NewReader: function 43 -/
/-- A reader that was made. -/
structure RdNew (w w' : World) (h : Value) (l : List Int) : Prop where
  rd : Rd w' (fun i => w.heap.size ≤ i ∧ i < w'.heap.size ∧ ¬ Pt h i) h l false
  pt : ∀ i, Pt h i → w.heap.size ≤ i ∧ i < w'.heap.size
  below : Below w.heap.size w w'
theorem wire_NewReader.calls (A : Option Addr) (c : Nat) (l : List Int) (w : World) (hr : Kd.C (Kd.int .u8) w A l.length l) (hb : ∀ x ∈ l, 0 ≤ x ∧ x < 256) (hl : l.length < 140737488355328) :
    Calls Try.prog 43 #[.slice A l.length c] w fun e w' => ∃ p, e = .returned (.pointer (some ⟨p, 0, none⟩)) ∧ RdNew w w' (.pointer (some ⟨p, 0, none⟩)) l := by
  have HR := Aside0.mk hr
  have HBY := Aside0.mk hb
  clear hr hb
  go_enter Try.func43, Try.ntmps43
  go_wp2_with fail
  refine (slices_Clone_byte_byte.own A c l _ HR.out hl).mono ?_
  rintro e w1 ⟨v, rfl, hv, hbl⟩
  obtain ⟨A1, c1, rfl, -⟩ := Kd.R_reads hv
  have HV := Aside0.mk hv
  have HB := Aside0.mk hbl
  clear hv hbl
  go_wp2
  go_ret
  have hv := HV.out
  have hsz := HB.out.size
  obtain ⟨-, hlc, hC⟩ := Kd.R_reads' hv
  have hpt : ∀ i, Pt (.pointer (some ⟨w1.heap.size, 0, none⟩)) i → i = w1.heap.size := fun i hi => by
    have : w1.heap.size = i := by simpa [Pt] using hi
    exact this.symm
  refine ⟨w1.heap.size, rfl, .inr ⟨w1.heap.size, A1, c1, rfl, ⟨heap_alloc_new w1 _, hlc, ⟨Kd.C_alloc hC _, fun hp a ha => ?_⟩, fun hn => hn.2.2 rfl, (fun h => by cases h), HBY.out⟩, fun hp a ha => ?_⟩, fun i hi => ?_, below_alloc HB.out _⟩
  · have h1 := Kd.R_base hv a.block (by subst ha; rfl)
    have h2 := Kd.R_lt hv a.block (by subst ha; rfl)
    refine ⟨h1, by simp; omega, fun hq => ?_⟩
    have := hpt _ hq
    omega
  · obtain ⟨g, cap, e, _, hgl, cells, hg⟩ := Kd.R_form hv hp
    injection e with e1 _ _
    rw [e1] at ha
    cases ha
    exact ⟨rfl, cells, by simpa using (Below.heap_alloc w1 _ g hgl).trans hg⟩
  · have := hpt i hi
    subst this
    exact ⟨hsz, by simp⟩

-- AUX rm
/-- The document's reader at q: what it has left. -/
def Rm (w : World) (S : Nat → Prop) (q : Nat) (l : List Int) (bad : Bool) : Prop := ∃ A c, Cur 88 w S q A c l bad
theorem Rm.only {w w' : World} {S T : Nat → Prop} {q : Nat} {l : List Int} {bad : Bool} (x : Rm w S q l bad) (o : Only w w' T) (hd : ∀ i, S i → ¬ T i) (hp : ¬ T q) : Rm w' S q l bad := by
  obtain ⟨A, c, x⟩ := x
  exact ⟨A, c, x.only o hd hp⟩
theorem Rm.below {w w' : World} {S : Nat → Prop} {q : Nat} {l : List Int} {bad : Bool} (x : Rm w S q l bad) (k : Below w.heap.size w w') : Rm w' S q l bad := x.only (Only.of_below k (fun _ => False)) (fun _ _ h => h) (fun h => h)
theorem Rm.byt {w : World} {S : Nat → Prop} {q : Nat} {l : List Int} {bad : Bool} (x : Rm w S q l bad) : ∀ x ∈ l, 0 ≤ x ∧ x < 256 := by
  obtain ⟨A, c, x⟩ := x
  exact x.byt
theorem Rm.lt {w : World} {S : Nat → Prop} {q : Nat} {l : List Int} {bad : Bool} (x : Rm w S q l bad) : q < w.heap.size := by
  obtain ⟨A, c, x⟩ := x
  exact blk_size x.str
structure RmTo (w w' : World) (S : Nat → Prop) (q : Nat) (l : List Int) (bad : Bool) : Prop where
  rm : Rm w' S q l bad
  only : Only w w' (fun i => i = q)
theorem RmTo.then_ {w w1 w2 : World} {S : Nat → Prop} {q : Nat} {l l2 : List Int} {bad bad2 : Bool} (x : RmTo w w1 S q l bad) (y : RmTo w1 w2 S q l2 bad2) : RmTo w w2 S q l2 bad2 := ⟨y.rm, x.only.same y.only⟩
theorem RmTo.refl {w : World} {S : Nat → Prop} {q : Nat} {l : List Int} {bad : Bool} (x : Rm w S q l bad) : RmTo w w S q l bad := ⟨x, Only.refl _ _⟩
/-- The row goes on by m bytes. -/
theorem rm_cut {w w1 : World} {S : Nat → Prop} {q : Nat} {A : Option Addr} {c m : Nat} {l : List Int} {bad : Bool} (x : Cur 88 w S q A c l bad) (hm : m ≤ l.length) {A2 : Option Addr} (hA2 : A2 = if c = m then A else A.map (·.add m)) (k : Below w.heap.size w w1) :
    RmTo w (w1.setCell ⟨q, 0, none⟩ (.slice A2 (l.length - m) (c - m))) S q (l.drop m) bad := by
  have x1 := x.only (Only.of_below k (fun _ => False)) (fun _ _ h => h) (fun h => h)
  have o : Only w (w1.setCell ⟨q, 0, none⟩ (.slice A2 (l.length - m) (c - m))) (fun i => i = q) := (Only.of_below k (fun i => i = q)).setCell (p := ⟨q, 0, none⟩) (.inl rfl) _
  have o1 : Only w1 (w1.setCell ⟨q, 0, none⟩ (.slice A2 (l.length - m) (c - m))) (fun i => i = q) := (Only.refl w1 (fun i => i = q)).setCell (p := ⟨q, 0, none⟩) (.inl rfl) _
  have hS : ∀ i, S i → ¬ i = q := fun i hi he => by subst he; exact x.ne hi
  have e1 := setCell_here x1.str 0 (.slice A2 (l.length - m) (c - m))
  generalize w1.setCell ⟨q, 0, none⟩ (.slice A2 (l.length - m) (c - m)) = w2 at *
  have r1 := x1.row.only o1 hS
  have hld : (l.drop m).length = l.length - m := List.length_drop
  have hlen := x.len
  have rD : Rb w2 S A2 (l.drop m) := by
    subst hA2
    have := Kd.C_drop (m := m) r1.row hm x.len
    refine ⟨by simpa [Kd.int, Kd.scalar] using this, fun hp a ha => ?_⟩
    rw [if_neg (by omega)] at ha
    rcases A with _ | a0
    · cases ha
    · simp only [Option.map_some, Option.some.injEq] at ha
      subst ha
      rw [add_blk]
      exact r1.blk (by omega) a0 rfl
  refine ⟨⟨A2, c - m, by rw [hld]; exact e1, by omega, rD, x.ne, fun hb => ?_, fun z hz => x.byt z (List.mem_of_mem_drop hz)⟩, o⟩
  have := x.z hb
  subst this
  simp

-- AUX segw
theorem add_at (a : Addr) (hs : a.spot = none) (k : Nat) : a.add k = ⟨a.block, a.off + k, none⟩ := by
  obtain ⟨b, o, s⟩ := a
  simp only at hs
  subst hs
  unfold Addr.add
  split <;> simp_all
theorem setCell_cell_ne {w : World} {b o : Nat} {u : Value} {cs : Array Value} {t : Nat} (hb : w.heap[b]? = some (.cells cs t (0, 0))) (p : Addr) (hp : p ≠ ⟨b, o, none⟩) : (w.setCell ⟨b, o, none⟩ u).cell? p = w.cell? p := by
  by_cases e : p.block = b
  · have h1 := setCell_here hb o u
    obtain ⟨pb, po, ps⟩ := p
    simp only at e
    subst e
    simp only [World.cell?, h1, hb]
    rcases ps with _ | s
    · have : po ≠ o := fun h => hp (by rw [h])
      simp [Array.getElem?_setIfInBounds, Ne.symm this]
    · rfl
  · exact cell_same (Below.heap_setCell w ⟨b, o, none⟩ u p.block e) p rfl
theorem Seg.set {w w' : World} {ad : Addr} {n k : Nat} (x : Seg w w' (some ad) n) (hs : ad.spot = none) (hk : k < n) {cs : Array Value} {t : Nat} (hb : w.heap[ad.block]? = some (.cells cs t (0, 0))) (u : Value) : Seg w (w'.setCell (ad.add k) u) (some ad) n := by
  obtain ⟨cs', hb'⟩ := x.kind ad rfl cs t hb
  rw [add_at ad hs]
  refine ⟨x.os, x.tape, x.output, by simp only [World.setCell, Array.size_modify]; exact x.size, fun i hi => ?_, fun a ha p hp hne => ?_, fun a ha cs0 t0 h0 => ?_⟩
  · exact (Below.heap_setCell w' ⟨ad.block, ad.off + k, none⟩ u i (hi (by omega) ad rfl)).trans (x.block i hi)
  · cases ha
    rw [setCell_cell_ne hb' p (by rw [← add_at ad hs]; exact hne k hk)]
    exact x.cell ad rfl p hp hne
  · cases ha
    rw [hb] at h0
    injection h0 with h0
    injection h0 with _ h2 _
    subst h2
    exact ⟨_, setCell_here hb' _ u⟩

/-! ### wire_Reader_fail: function 65 -/
theorem wire_Reader_fail.calls (S : Nat → Prop) (p : Nat) (A : Option Addr) (c : Nat) (l : List Int) (bad : Bool) (w : World) (hr : Cur 101 w S p A c l bad) :
    Calls Try.prog 65 #[.pointer (some ⟨p, 0, none⟩)] w fun e w' => e = .returned (.tuple #[]) ∧ RdTo w w' S (.pointer (some ⟨p, 0, none⟩)) [] true := by
  have hb := hr.str
  have h0 : w.cell? ⟨p, 0, none⟩ = some (.slice A l.length c) := by rw [cell_of hb]; rfl
  have h1 : w.cell? ⟨p, 1, none⟩ = some (.bool bad) := by rw [cell_of hb]; rfl
  have f0 := frozen_of hb 0
  have f1 := frozen_of hb 1
  have HB := Aside0.mk hb
  have hne := hr.ne
  clear hr hb
  go_enter Try.func65, Try.ntmps65
  go_wp2
  go_end0
  have e1 := setCell_here HB.out 0 (.slice none 0 0)
  have e2 := setCell_here e1 1 (.bool true)
  refine ⟨rfl, .inr ⟨p, none, 0, rfl, ⟨e2, by simp, ⟨Kd.C_nil _ _, fun h => absurd h (by simp)⟩, hne, fun _ => rfl, by simp⟩, fun h => absurd h (by simp)⟩, ?_⟩
  exact ((Only.refl w _).setCell (p := ⟨p, 0, none⟩) (.inl (show Pt _ p from rfl)) _).setCell (p := ⟨p, 1, none⟩) (.inl (show Pt _ p from rfl)) _

-- AUX tookw
/-- What a taking leaves: the row taken (b, at A), the rest, which stays where b is written over. -/
structure TookTo (w w' : World) (S : Nat → Prop) (h : Value) (A : Option Addr) (b r : List Int) : Prop where
  row : Rb w' S A b
  nf : Nf w' A b
  rdto : RdTo w w' S h r false
  stab : RdX w' S h r false A b.length
theorem add_add (a : Addr) (hs : a.spot = none) (i j : Nat) : (a.add i).add j = a.add (i + j) := by
  obtain ⟨b, o, s⟩ := a
  simp only at hs
  subst hs
  rw [show (⟨b, o, none⟩ : Addr).add i = ⟨b, o + i, none⟩ by unfold Addr.add; split <;> simp_all]
  rw [show (⟨b, o + i, none⟩ : Addr).add j = ⟨b, o + i + j, none⟩ by unfold Addr.add; split <;> simp_all]
  rw [show (⟨b, o, none⟩ : Addr).add (i + j) = ⟨b, o + (i + j), none⟩ by unfold Addr.add; split <;> simp_all]
  rw [Nat.add_assoc]
theorem add_inj (a : Addr) (hs : a.spot = none) (i j : Nat) (h : a.add i = a.add j) : i = j := by
  obtain ⟨b, o, s⟩ := a
  simp only at hs
  subst hs
  rw [show (⟨b, o, none⟩ : Addr).add i = ⟨b, o + i, none⟩ by unfold Addr.add; split <;> simp_all, show (⟨b, o, none⟩ : Addr).add j = ⟨b, o + j, none⟩ by unfold Addr.add; split <;> simp_all] at h
  injection h with _ h _
  omega
theorem add_spot (a : Addr) (hs : a.spot = none) (i : Nat) : (a.add i).spot = none := by
  obtain ⟨b, o, s⟩ := a
  simp only at hs
  subst hs
  rw [show (⟨b, o, none⟩ : Addr).add i = ⟨b, o + i, none⟩ by unfold Addr.add; split <;> simp_all]
theorem took_of {w : World} {S : Nat → Prop} {p : Nat} {A : Option Addr} {c m : Nat} {l : List Int} (x : Cur 101 w S p A c l false) (y : Nf w A l) (hm : m ≤ l.length) {A2 : Option Addr} (hA2 : A2 = if c = m then A else A.map (·.add m)) :
    TookTo w (w.setCell ⟨p, 0, none⟩ (.slice A2 (l.length - m) (c - m))) S (.pointer (some ⟨p, 0, none⟩)) A (l.take m) (l.drop m) := by
  have o : Only w (w.setCell ⟨p, 0, none⟩ (.slice A2 (l.length - m) (c - m))) (Pt (.pointer (some ⟨p, 0, none⟩))) := (Only.refl w _).setCell (p := ⟨p, 0, none⟩) (.inl (show Pt _ p from rfl)) _
  have hS : ∀ i, S i → ¬ Pt (.pointer (some ⟨p, 0, none⟩)) i := fun i hi he => by
    have : p = i := by simpa [Pt] using he
    subst this
    exact x.ne hi
  have e1 := setCell_here x.str 0 (.slice A2 (l.length - m) (c - m))
  generalize w.setCell ⟨p, 0, none⟩ (.slice A2 (l.length - m) (c - m)) = w1 at *
  have r1 := x.row.only o hS
  have n1 := y.only x.row o hS
  have hlt : (l.take m).length = m := by rw [List.length_take]; omega
  have hld : (l.drop m).length = l.length - m := List.length_drop
  have hlen := x.len
  have rT : Rb w1 S A (l.take m) := ⟨by have := Kd.C_take (m := m) r1.row hm; exact this, fun hp a ha => r1.blk (by omega) a ha⟩
  have rD : Rb w1 S A2 (l.drop m) := by
    subst hA2
    have := Kd.C_drop (m := m) r1.row hm x.len
    refine ⟨by simpa [Kd.int, Kd.scalar] using this, fun hp a ha => ?_⟩
    rw [if_neg (by omega)] at ha
    rcases A with _ | a0
    · cases ha
    · simp only [Option.map_some, Option.some.injEq] at ha
      subst ha
      rw [add_blk]
      exact r1.blk (by omega) a0 rfl
  have nD : Nf w1 A2 (l.drop m) := fun hp a ha => by
    subst hA2
    rw [if_neg (by omega)] at ha
    rcases A with _ | a0
    · cases ha
    · simp only [Option.map_some, Option.some.injEq] at ha
      subst ha
      obtain ⟨q1, q2⟩ := n1 (by omega) a0 rfl
      exact ⟨add_spot a0 q1 m, by rw [add_blk]; exact q2⟩
  have str1 : w1.heap[p]? = some (.cells #[.slice A2 (l.drop m).length (c - m), .bool false] 101 (0, 0)) := by rw [hld]; exact e1
  have byt1 : ∀ x ∈ l.drop m, 0 ≤ x ∧ x < 256 := fun z hz => x.byt z (List.mem_of_mem_drop hz)
  refine ⟨rT, fun hp a ha => n1 (by omega) a ha, ⟨.inr ⟨p, A2, c - m, rfl, ⟨str1, by omega, rD, x.ne, fun h => (by cases h), byt1⟩, nD⟩, o⟩, .inr ⟨p, A2, c - m, rfl, ⟨str1, by omega, rD, x.ne, fun h => (by cases h), byt1⟩, nD, fun hp a ha e => x.ne (by rw [e]; exact rT.blk hp a ha), fun ad a he ha i hi j hj e => ?_⟩⟩
  have hA := hA2
  rw [if_neg (by omega), ha, he] at hA
  simp only [Option.map_some, Option.some.injEq] at hA
  subst hA
  obtain ⟨q1, q2⟩ := n1 (by omega) a ha
  rw [add_add a q1] at e
  have := add_inj a q1 _ _ e
  omega

-- AUX orw
theorem sumN_bd (b : List Int) (hb : ∀ x ∈ b, 0 ≤ x ∧ x < 256) (k : Nat) : 0 ≤ sumN b k ∧ sumN b k < 2 ^ (8 * k) := by
  induction k with
  | zero => simp [sumN]
  | succ k ih =>
    have hr : 0 ≤ rd b k ∧ rd b k < 256 := by
      unfold rd
      rw [Int.toNat_natCast, List.getD_eq_getElem?_getD]
      by_cases h : k < b.length
      · simp only [List.getElem?_eq_getElem h, Option.getD_some]
        exact hb _ (List.getElem_mem h)
      · simp [List.getElem?_eq_none (Nat.le_of_not_lt h)]
    have hp : (2 : Int) ^ (8 * (k + 1)) = 256 * 2 ^ (8 * k) := by
      rw [show 8 * (k + 1) = 8 + 8 * k by omega, Int.pow_add]; rfl
    have h0 : (0 : Int) < 2 ^ (8 * k) := Int.pow_pos (by decide)
    unfold sumN
    rw [hp]
    generalize (2 : Int) ^ (8 * k) = P at *
    generalize rd b k = c at *
    refine ⟨Int.add_nonneg ih.1 (Int.mul_nonneg hr.1 (by omega)), ?_⟩
    have : c * P ≤ 255 * P := Int.mul_le_mul_of_nonneg_right (by omega) (by omega)
    omega
/-- A byte is put above what is there. -/
theorem or_step (s c : Int) (k : Nat) (hk : k < 8) (h0 : 0 ≤ s) (h1 : s < 2 ^ (8 * k)) (c0 : 0 ≤ c) (c1 : c < 256) : bits .or .i64 s (IntKind.i64.wrap (c * 2 ^ (8 * k))) = IntKind.i64.wrap (s + c * 2 ^ (8 * k)) := by
  have hw : ∀ x : Int, BitVec.ofInt 64 (IntKind.i64.wrap x) = BitVec.ofInt 64 x := by
    intro x
    apply BitVec.eq_of_toInt_eq
    rw [BitVec.toInt_ofInt, BitVec.toInt_ofInt]
    simp only [IntKind.wrap, IntKind.bits, IntKind.signed, Int.bmod]
    simp
    split <;> split <;> split <;> omega
  show IntKind.i64.wrap (((BitVec.ofInt 64 s ||| BitVec.ofInt 64 (IntKind.i64.wrap (c * 2 ^ (8 * k)))).toNat : Nat) : Int) = _
  rw [hw]
  obtain ⟨S, rfl⟩ := Int.eq_ofNat_of_zero_le h0
  obtain ⟨C, rfl⟩ := Int.eq_ofNat_of_zero_le c0
  have hS : S < 2 ^ (8 * k) := by exact_mod_cast h1
  have hC : C < 256 := by omega
  have e1 : ((C : Int) * 2 ^ (8 * k)) = ((C * 2 ^ (8 * k) : Nat) : Int) := by push_cast; rfl
  have hp : 2 ^ (8 * k) * 256 ≤ 2 ^ 64 := by
    rw [show (256 : Nat) = 2 ^ 8 by rfl, ← Nat.pow_add]
    exact Nat.pow_le_pow_right (by decide) (by omega)
  have hCP : C * 2 ^ (8 * k) ≤ 255 * 2 ^ (8 * k) := Nat.mul_le_mul_right _ (by omega)
  rw [e1, BitVec.ofInt_natCast, BitVec.ofInt_natCast, BitVec.toNat_or, BitVec.toNat_ofNat, BitVec.toNat_ofNat, Nat.mod_eq_of_lt (by omega), Nat.mod_eq_of_lt (by omega), Nat.or_comm, nat_join (8 * k) _ _ (by simp) hS]
  congr 1
  push_cast
  omega
theorem wrap_i64 (n : Int) : IntKind.i64.wrap n = wrap64 n := by
  simp only [IntKind.wrap, IntKind.bits, IntKind.signed, wrap64]
  simp
  split <;> omega
def accN (b : List Int) (k : Nat) : Int := wrap64 (sumN b k)
theorem accN_zero (b : List Int) : accN b 0 = 0 := by simp [accN, sumN, wrap64]
theorem rd_bd {b : List Int} (hb : ∀ x ∈ b, 0 ≤ x ∧ x < 256) (k : Nat) (h : k < b.length) : 0 ≤ rd b k ∧ rd b k < 256 := by
  unfold rd
  rw [Int.toNat_natCast, List.getD_eq_getElem?_getD, List.getElem?_eq_getElem h, Option.getD_some]
  exact hb _ (List.getElem_mem h)
theorem accN_small (b : List Int) (hb : ∀ x ∈ b, 0 ≤ x ∧ x < 256) (k : Nat) (hk : k < 8) : accN b k = sumN b k := by
  have h := sumN_bd b hb k
  have hp : (2 : Int) ^ (8 * k) ≤ 2 ^ 56 := by
    have := Nat.pow_le_pow_right (n := 2) (by decide) (show 8 * k ≤ 56 by omega)
    exact_mod_cast this
  have : (2 : Int) ^ 56 = 72057594037927936 := by decide
  unfold accN wrap64
  omega
theorem accN_step (b : List Int) (hb : ∀ x ∈ b, 0 ≤ x ∧ x < 256) (k : Nat) (hk : k < 8) (hl : k < b.length) : bits .or .i64 (accN b k) (wrap64 (rd b k * 2 ^ (8 * k))) = accN b (k + 1) := by
  have h := sumN_bd b hb k
  have hr : 0 ≤ rd b k ∧ rd b k < 256 := by
    unfold rd
    rw [Int.toNat_natCast, List.getD_eq_getElem?_getD, List.getElem?_eq_getElem hl, Option.getD_some]
    exact hb _ (List.getElem_mem hl)
  rw [← wrap_i64, accN_small b hb k hk, or_step _ _ k hk h.1 h.2 hr.1 hr.2, wrap_i64]
  rfl

/-! ### laminanum_Over: function 21 -/
theorem laminanum_Over.seg (S : Nat → Prop) (A : Option Addr) (c : Nat) (l : List Int) (w : World) (hr : Rb w S A l) (hn : Nf w A l) :
    Calls Try.prog 21 #[.slice A l.length c] w fun e w' => e = .returned (.tuple #[]) ∧ Seg w w' A l.length := by
  have hm := hr.row.2.1
  have HR := Aside0.mk hr
  have HN := Aside0.mk hn
  clear hr hn
  go_enter Try.func21, Try.ntmps21
  go_wp2
  go_loopw [2, 5] (fun _ v5 wr => ∃ k : Nat, k ≤ l.length ∧ v5 = .int .i64 k ∧ Aside0 (Seg w wr A l.length) ∧ Aside0 (∀ ad, A = some ad → ∀ j, k ≤ j → j < l.length → wr.cell? (ad.add j) = w.cell? (ad.add j))) (fun _ v5 _ => l.length - (intOf v5).toNat)
  case atStart => exact ⟨0, by omega, rfl, ⟨Seg.refl _ _ _⟩, ⟨fun _ _ _ _ _ => rfl⟩⟩
  case round =>
    obtain ⟨k, hk, rfl, HS, HC⟩ := hrel
    by_cases hlt : k < l.length
    · obtain ⟨ad, e, hx⟩ := C_cells HR.out.row (by omega)
      subst e
      obtain ⟨hs, cs, hb⟩ := HN.out (by omega) ad rfl
      obtain ⟨cs', hb'⟩ := HS.out.kind ad rfl cs _ hb
      have hc := (HC.out ad rfl k (Nat.le_refl _) hlt).trans (hx k hlt)
      have hf : wr.frozen? (ad.add k) = false := by rw [add_at ad hs]; exact frozen_of hb' _
      have HB := Aside0.mk hb
      have HB' := Aside0.mk hb'
      have HSP := Aside0.mk hs
      clear hb hb' hx hs
      go_wp2
      refine ⟨⟨k + 1, by omega, by go_num, ⟨HS.out.set HSP.out hlt HB.out _⟩, ⟨fun a ha j h1 h2 => ?_⟩⟩, by simp [intOf]; omega⟩
      cases ha
      rw [add_at ad HSP.out k, setCell_cell_ne HB'.out _ (by rw [← add_at ad HSP.out k]; intro h; have := add_inj ad HSP.out _ _ h; omega)]
      exact HC.out ad rfl j (by omega) h2
    · obtain rfl : k = l.length := by omega
      go_wp2
      go_end0
      exact ⟨rfl, HS.out⟩

-- AUX over17
/-- n cells from A on hold bytes, in a block of bytes. -/
def U8s (w : World) (A : Option Addr) (n : Nat) : Prop := 0 < n → ∀ ad, A = some ad → ad.spot = none ∧ (∃ cs, w.heap[ad.block]? = some (.cells cs 5 (0, 0))) ∧ ∀ j, j < n → ∃ x : Int, w.cell? (ad.add j) = some (.int .u8 x)
def byteAt (w : World) (a : Addr) : Int := match w.cell? a with
  | some (.int _ x) => x
  | _ => 0
theorem U8s.of {w : World} {S : Nat → Prop} {A : Option Addr} {l : List Int} (hr : Rb w S A l) (hn : Nf w A l) : U8s w A l.length := fun hp ad ha => by
  obtain ⟨ad', e, hx⟩ := C_cells hr.row hp
  rw [ha] at e
  cases e
  obtain ⟨h1, h2⟩ := hn hp ad ha
  exact ⟨h1, h2, fun j hj => ⟨_, hx j hj⟩⟩
theorem U8s.rb {w : World} {S : Nat → Prop} {A : Option Addr} {n : Nat} (h : U8s w A n) (hA : 0 < n → ∃ ad, A = some ad) (hm : n ≤ 9223372036854775807) (hS : 0 < n → ∀ ad, A = some ad → S ad.block) : ∃ l : List Int, l.length = n ∧ Rb w S A l ∧ Nf w A l := by
  rcases Nat.eq_zero_or_pos n with h0 | h0
  · subst h0
    exact ⟨[], rfl, ⟨⟨rfl, Nat.zero_le _, fun h => absurd h (Nat.lt_irrefl 0)⟩, fun h => absurd h (Nat.lt_irrefl 0)⟩, fun h => absurd h (Nat.lt_irrefl 0)⟩
  · obtain ⟨ad, rfl⟩ := hA h0
    obtain ⟨h1, h2, h3⟩ := h h0 ad rfl
    have hl : ((List.range n).map fun j => byteAt w (ad.add j)).length = n := by simp
    refine ⟨(List.range n).map fun j => byteAt w (ad.add j), hl, ⟨C_mk (by rw [hl]; exact hm) (fun _ => ⟨ad, rfl, fun j hj => ?_⟩), fun _ a ha => hS h0 a ha⟩, fun _ a ha => by cases ha; exact ⟨h1, h2⟩⟩
    rw [hl] at hj
    obtain ⟨x, hx⟩ := h3 j hj
    rw [hx]
    simp [rd, hj, byteAt, hx]
theorem set_cell_self {w : World} {b o : Nat} {cs : Array Value} {t : Nat} (hb : w.heap[b]? = some (.cells cs t (0, 0))) (h : o < cs.size) (u : Value) : (w.setCell ⟨b, o, none⟩ u).cell? ⟨b, o, none⟩ = some u := by
  rw [cell_of (setCell_here hb o u), Array.getElem?_setIfInBounds_self_of_lt h]
theorem laminanum_Over.u8 (S : Nat → Prop) (A : Option Addr) (c : Nat) (l : List Int) (w : World) (hr : Rb w S A l) (hn : Nf w A l) :
    Calls Try.prog 21 #[.slice A l.length c] w fun e w' => e = .returned (.tuple #[]) ∧ Seg w w' A l.length ∧ U8s w' A l.length := by
  have hm := hr.row.2.1
  have HR := Aside0.mk hr
  have HN := Aside0.mk hn
  clear hr hn
  go_enter Try.func21, Try.ntmps21
  go_wp2
  go_loopw [2, 5] (fun _ v5 wr => ∃ k : Nat, k ≤ l.length ∧ v5 = .int .i64 k ∧ Aside0 (Seg w wr A l.length) ∧ Aside0 (∀ ad, A = some ad → ∀ j, k ≤ j → j < l.length → wr.cell? (ad.add j) = w.cell? (ad.add j)) ∧ Aside0 (∀ ad, A = some ad → ∀ j, j < k → ∃ x : Int, wr.cell? (ad.add j) = some (.int .u8 x))) (fun _ v5 _ => l.length - (intOf v5).toNat)
  case atStart => exact ⟨0, by omega, rfl, ⟨Seg.refl _ _ _⟩, ⟨fun _ _ _ _ _ => rfl⟩, ⟨fun _ _ j hj => absurd hj (Nat.not_lt_zero j)⟩⟩
  case round =>
    obtain ⟨k, hk, rfl, HS, HC, HU⟩ := hrel
    by_cases hlt : k < l.length
    · obtain ⟨ad, e, hx⟩ := C_cells HR.out.row (by omega)
      subst e
      obtain ⟨hs, cs, hb⟩ := HN.out (by omega) ad rfl
      obtain ⟨cs', hb'⟩ := HS.out.kind ad rfl cs _ hb
      have hc := (HC.out ad rfl k (Nat.le_refl _) hlt).trans (hx k hlt)
      have hf : wr.frozen? (ad.add k) = false := by rw [add_at ad hs]; exact frozen_of hb' _
      have HB := Aside0.mk hb
      have HB' := Aside0.mk hb'
      have HSP := Aside0.mk hs
      have HCC := Aside0.mk hc
      clear hb hb' hx hs
      go_wp2
      refine ⟨⟨k + 1, by omega, by go_num, ⟨HS.out.set HSP.out hlt HB.out _⟩, ⟨fun a ha j h1 h2 => ?_⟩, ⟨fun a ha j hj => ?_⟩⟩, by simp [intOf]; omega⟩
      · cases ha
        rw [add_at ad HSP.out k, setCell_cell_ne HB'.out _ (by rw [← add_at ad HSP.out k]; intro h; have := add_inj ad HSP.out _ _ h; omega)]
        exact HC.out ad rfl j (by omega) h2
      · cases ha
        by_cases hjk : j = k
        · subst hjk
          have h1 := HCC.out
          rw [add_at ad HSP.out, cell_of HB'.out] at h1
          have h2 := (Array.getElem?_eq_some_iff.1 h1).1
          rw [add_at ad HSP.out]
          exact ⟨_, set_cell_self HB'.out h2 _⟩
        · rw [add_at ad HSP.out k, setCell_cell_ne HB'.out _ (by rw [← add_at ad HSP.out k]; intro h; have := add_inj ad HSP.out _ _ h; omega)]
          exact HU.out ad rfl j (by omega)
    · obtain rfl : k = l.length := by omega
      go_wp2
      go_end0
      refine ⟨rfl, HS.out, fun hp ad ha => ?_⟩
      obtain ⟨h1, cs, h2⟩ := HN.out hp ad ha
      exact ⟨h1, HS.out.kind ad ha cs _ h2, HU.out ad ha⟩
/-- Bytes stay bytes where n cells at A were written over. -/
theorem U8s.over {w w' : World} {A B : Option Addr} {n m : Nat} (h : U8s w B m) (sg : Seg w w' A n) (hu : U8s w' A n) : U8s w' B m := fun hp ad ha => by
  obtain ⟨h1, ⟨cs, h2⟩, h3⟩ := h hp ad ha
  rcases Nat.eq_zero_or_pos n with h0 | h0
  · have hb := sg.block ad.block (fun hp => absurd hp (by omega))
    exact ⟨h1, ⟨cs, hb.trans h2⟩, fun j hj => by rw [cell_same hb _ (add_blk ad j)]; exact h3 j hj⟩
  · rcases A with _ | a
    · have hb := sg.block ad.block (fun _ a ha => by cases ha)
      exact ⟨h1, ⟨cs, hb.trans h2⟩, fun j hj => by rw [cell_same hb _ (add_blk ad j)]; exact h3 j hj⟩
    · by_cases hab : ad.block = a.block
      · obtain ⟨cs', h4⟩ := sg.kind a rfl cs _ (by rw [← hab]; exact h2)
        refine ⟨h1, ⟨cs', by rw [hab]; exact h4⟩, fun j hj => ?_⟩
        by_cases hin : ∃ i, i < n ∧ ad.add j = a.add i
        · obtain ⟨i, hi, e⟩ := hin
          rw [e]
          exact (hu h0 a rfl).2.2 i hi
        · rw [sg.cell a rfl (ad.add j) (by rw [add_blk]; exact hab) (fun i hi e => hin ⟨i, hi, e⟩)]
          exact h3 j hj
      · have hb := sg.block ad.block (fun _ a' ha' => by cases ha'; exact hab)
        exact ⟨h1, ⟨cs, hb.trans h2⟩, fun j hj => by rw [cell_same hb _ (add_blk ad j)]; exact h3 j hj⟩

/-! ### laminaref17_Same: function 22 -/
set_option maxRecDepth 100000 in
set_option maxHeartbeats 8000000 in
theorem laminaref17_Same.same (F T : Int) (A1 : Option Addr) (c1 : Nat) (A2 : Option Addr) (c2 : Nat) (l : List S65) (w : World) (hr1 : Kd.C k65 w A1 l.length l) (hr2 : Kd.C k65 w A2 l.length l) (hl : l.length ≤ 1000000) :
    Calls Try.prog 22 #[.agg #[.int .i64 F, .int .i64 T, .slice A1 l.length c1], .agg #[.int .i64 F, .int .i64 T, .slice A2 l.length c2]] w fun e w' => e = .returned (.bool true) ∧ Below w.heap.size w w' := by
  have HR1 := Aside0.mk hr1
  have HR2 := Aside0.mk hr2
  clear hr1 hr2
  go_enter Try.func22, Try.ntmps22
  go_wp2
  go_loopw [5] (fun v5 wr => ∃ (i : Nat), i ≤ l.length ∧ v5 = .int .i64 i ∧ Aside0 (Below w.heap.size w wr) ∧ Aside0 (wr.heap[w.heap.size]? = some (.cells #[.int .i64 F, .int .i64 T, .slice A1 l.length c1] 24 (0, 0))) ∧ Aside0 (wr.heap[w.heap.size + 1]? = some (.cells #[.int .i64 F, .int .i64 T, .slice A2 l.length c2] 24 (0, 0)))) (fun v5 _ => l.length - (intOf v5).toNat)
  case atStart => exact ⟨0, by omega, rfl, ⟨below_alloc (below_alloc (Below.refl _ _) _) _⟩, ⟨blk_alloc (blk_new w _) _⟩, ⟨by have := blk_new (w.alloc (.cells #[.int .i64 F, .int .i64 T, .slice A1 l.length c1] 24)) (.cells #[.int .i64 F, .int .i64 T, .slice A2 l.length c2] 24); simpa using this⟩⟩
  case round =>
    obtain ⟨i, hi, rfl, HB, BK0, BK1⟩ := hrel
    have hz0 : wr.cell? ⟨w.heap.size, 2, none⟩ = some (.slice A1 l.length c1) := (blk_cell BK0.out 2).trans rfl
    have hz1 : wr.cell? ⟨w.heap.size + 1, 2, none⟩ = some (.slice A2 l.length c2) := (blk_cell BK1.out 2).trans rfl
    have hz1a : ∀ ob, (wr.alloc ob).cell? ⟨w.heap.size + 1, 2, none⟩ = some (.slice A2 l.length c2) := fun ob => Lib.cell?_alloc_some ob hz1
    by_cases hlt : i < l.length
    · obtain ⟨ad, A3, c3, e, hx0, hx1, hx2, hx3, hl3, hc3⟩ := at_T65 (Kd.C_below HR1.out HB.out) i (by omega) (by omega)
      obtain ⟨bd, A4, c4, e', hy0, hy1, hy2, hy3, hl4, hc4⟩ := at_T65 (Kd.C_below HR2.out HB.out) i (by omega) (by omega)
      subst e e'
      simp only [Int.toNat_natCast] at hx0 hx1 hx2 hx3 hy0 hy1 hy2 hy3
      generalize rd_T65 l i = r at *
      obtain ⟨r0, r1, z, d⟩ := r
      simp only at hx0 hx1 hx2 hx3 hl3 hy0 hy1 hy2 hy3 hl4 hc3 hc4
      have hu0 : ∀ ob, (wr.alloc ob).cell? (bd.add (i * 4)) = _ := fun ob => Lib.cell?_alloc_some ob hy0
      have hu1 : ∀ ob, (wr.alloc ob).cell? ⟨(bd.add (i * 4)).block, (bd.add (i * 4)).off + 1, none⟩ = _ := fun ob => Lib.cell?_alloc_some ob hy1
      have hu2 : ∀ ob, (wr.alloc ob).cell? ⟨(bd.add (i * 4)).block, (bd.add (i * 4)).off + 2, none⟩ = _ := fun ob => Lib.cell?_alloc_some ob hy2
      have hu3 : ∀ ob, (wr.alloc ob).cell? ⟨(bd.add (i * 4)).block, (bd.add (i * 4)).off + 3, none⟩ = _ := fun ob => Lib.cell?_alloc_some ob hy3
      have hcv3 := Kd.C_string (P := Try.prog) (A := A3) (c := c3) Try.underlying25 Try.underlying5 Try.underlying9 (Kd.C_alloc (Kd.C_alloc hc3 (.cells #[.int .i64 r0, .int .i64 r1, .bool z, .slice A3 d.length c3] 65)) (.cells #[.int .i64 r0, .int .i64 r1, .bool z, .slice A4 d.length c4] 65))
      have hcv4 := Kd.C_string (P := Try.prog) (A := A4) (c := c4) Try.underlying25 Try.underlying5 Try.underlying9 (Kd.C_alloc (Kd.C_alloc hc4 (.cells #[.int .i64 r0, .int .i64 r1, .bool z, .slice A3 d.length c3] 65)) (.cells #[.int .i64 r0, .int .i64 r1, .bool z, .slice A4 d.length c4] 65))
      clear hc3 hc4 hy0 hy1 hy2 hy3
      go_wp2
      exact ⟨⟨i + 1, by omega, by go_num, ⟨below_alloc (below_alloc HB.out _) _⟩, ⟨blk_alloc (blk_alloc BK0.out _) _⟩, ⟨blk_alloc (blk_alloc BK1.out _) _⟩⟩, by simp [intOf]; omega⟩
    · obtain rfl : i = l.length := by omega
      go_wp2
      go_ret
      exact ⟨rfl, HB.out⟩

/-! ### laminalaw17_large: function 9 -/
def laminalaw17_large.l0 : Nat → List (S65) → Int → Int → Option (Bool)
  | 0, _, _, _ => none
  | k + 1, x10, x11, x12 => if x12 < x11 then (if 0 ≤ x12 then (if x12 < (x10.length : Int) then (if (((rd_T65 x10 x12).f3).length : Int) > 1000 then (some true) else (laminalaw17_large.l0 k x10 x11 (wrap64 (x12 + 1)))) else (none)) else (none)) else (some false)
def laminalaw17_large.f (k : Nat) (a0_0 : Int) (a0_1 : Int) (l0_2 : List (S65)) : Option (Bool) := if (l0_2.length : Int) > 40 then (some true) else (laminalaw17_large.l0 k l0_2 (l0_2.length : Int) 0)
theorem laminalaw17_large.mono_l : ∀ k, (∀ y0 y1 y2, LeO (laminalaw17_large.l0 k y0 y1 y2) (laminalaw17_large.l0 (k + 1) y0 y1 y2))
  | 0 => fun _ _ _ r h => by simp [laminalaw17_large.l0] at h
  | k + 1 => by
    have ih0 := laminalaw17_large.mono_l k
    · intro y0 y1 y2
      unfold laminalaw17_large.l0
      repeat' first
      | (with_reducible exact ih0 _ _ _)
      | (with_reducible exact LeO.refl _)
      | (with_reducible exact LeO.none _)
      | (with_reducible refine LeO.ite ?_ ?_)
      | (with_reducible refine LeO.bind ?_ (fun _ => ?_))
      | exact ih0 _ _ _
      | exact LeO.none _
      | refine LeO.ite ?_ ?_
      | refine LeO.bind ?_ (fun _ => ?_)
theorem laminalaw17_large.mono : ∀ a0 a1 a2 k, LeO (laminalaw17_large.f k a0 a1 a2) (laminalaw17_large.f (k + 1) a0 a1 a2) := by
  intro a0 a1 a2 k
  have ih0 := laminalaw17_large.mono_l k
  unfold laminalaw17_large.f
  repeat' first
      | (with_reducible exact ih0 _ _ _)
      | (with_reducible exact LeO.refl _)
      | (with_reducible exact LeO.none _)
      | (with_reducible refine LeO.ite ?_ ?_)
      | (with_reducible refine LeO.bind ?_ (fun _ => ?_))
      | exact ih0 _ _ _
      | exact LeO.none _
      | refine LeO.ite ?_ ?_
      | refine LeO.bind ?_ (fun _ => ?_)
set_option maxHeartbeats 8000000 in
set_option maxRecDepth 100000 in
theorem laminalaw17_large.calls (k : Nat) (a0_0 : Int) (a0_1 : Int) (A0_2 : Option Addr) (c0_2 : Nat) (l0_2 : List (S65)) (r : Bool) (w : World) (hr0_2 : Kd.C k65 w A0_2 l0_2.length l0_2) (hc0_2 : l0_2.length ≤ c0_2) (h : laminalaw17_large.f k a0_0 a0_1 l0_2 = some r) :
    Calls Try.prog 9 #[.agg #[.int .i64 a0_0, .int .i64 a0_1, .slice A0_2 l0_2.length c0_2]] w fun e w' => e = .returned (.bool r) ∧ Below w.heap.size w w' := by
  have hu24 := Try.underlying24
  have hu65 := Try.underlying65
  have HR0_2 := Aside0.mk hr0_2
  have HC0_2 := Aside0.mk hc0_2
  clear hr0_2 hc0_2
  have HB := Aside0.mk (Below.refl w.heap.size w)
  have H : (if (l0_2.length : Int) > 40 then (some true) else (laminalaw17_large.l0 k l0_2 (l0_2.length : Int) 0)) = some r := h
  clear h
  by_cases c2 : (l0_2.length : Int) > 40
  · rw [if_pos c2] at H
    have c2b0 : decide (40 < (l0_2.length : Int)) = true := decide_eq_true c2
    have c2b1 : decide (40 < l0_2.length) = true := decide_eq_true (by omega)
    clear c2
    obtain rfl := Option.some.inj H
    go_enter Try.func9, Try.ntmps9
    go_wp2_with (first | ((with_reducible refine gate_dst (N := 1) rfl ?_); refine box_event ?hg (N := 1) ?hd (cs := #[.int .i64 a0_0, .int .i64 a0_1, .slice A0_2 l0_2.length c0_2]) (t := 24) ?hr ?_; (case hd => rfl); (case hg => rfl); (case hr => first | (go_simp; done) | (go_simp; rfl)); intro gb103 hg w3 hbox hb; have n0_ := Aside0.mk (below_step (by repeat (first | (with_reducible first | exact HB.out | apply below_alloc | apply pw_below_drewN | apply below_drew1) | exact HB.out)) hb); have n1_ := Aside0.mk (hbox); have n2_ := Aside0.mk ((by rw [hg]; exact (below_size (by repeat (first | (with_reducible first | exact HB.out | apply below_alloc | apply pw_below_drewN | apply below_drew1) | exact HB.out))) : w.heap.size ≤ gb103)); have n3_ := Aside0.mk ((by rw [hg]; exact (below_size (by repeat (first | (with_reducible first | exact HB.out | apply below_alloc | apply pw_below_drewN | apply below_drew1) | exact HB.out))) : w.heap.size ≤ gb103)); clear HB; have HB := n0_; have BK103 := n1_; have GW103 := n2_; have GE103 := n3_; clear n0_ n1_ n2_ n3_; clear hb hbox hg; have hcz4_0 : w3.cell? ⟨gb103, 0, none⟩ = some (.int .i64 a0_0) := (blk_cell BK103.out 0).trans rfl; have hcz4_1 : w3.cell? ⟨gb103, 1, none⟩ = some (.int .i64 a0_1) := (blk_cell BK103.out 1).trans rfl; have hcz4_2 : w3.cell? ⟨gb103, 2, none⟩ = some (.slice A0_2 l0_2.length c0_2) := (blk_cell BK103.out 2).trans rfl; have hfz4_0 := blk_frozen BK103.out 0; have hfz4_1 := blk_frozen BK103.out 1; have hfz4_2 := blk_frozen BK103.out 2))
    go_ret
    exact ⟨by first | rfl | (simp [errW_none, errW_some] <;> rfl) | (simp [*, errW_none, errW_some] <;> rfl), by repeat (first | (with_reducible first | exact HB.out | apply below_alloc | apply pw_below_drewN | apply below_drew1 | refine below_set ?_ GE103.out) | exact HB.out)⟩
  · rw [if_neg c2] at H
    have c2b0 : decide (40 < (l0_2.length : Int)) = false := decide_eq_false c2
    have c2b1 : decide (40 < l0_2.length) = false := decide_eq_false (by omega)
    clear c2
    have H' := Aside0.mk H
    clear H
    go_enter Try.func9, Try.ntmps9
    go_wp2_with (first | ((with_reducible refine gate_dst (N := 1) rfl ?_); refine box_event ?hg (N := 1) ?hd (cs := #[.int .i64 a0_0, .int .i64 a0_1, .slice A0_2 l0_2.length c0_2]) (t := 24) ?hr ?_; (case hd => rfl); (case hg => rfl); (case hr => first | (go_simp; done) | (go_simp; rfl)); intro gb103 hg w5 hbox hb; have n0_ := Aside0.mk (below_step (by repeat (first | (with_reducible first | exact HB.out | apply below_alloc | apply pw_below_drewN | apply below_drew1) | exact HB.out)) hb); have n1_ := Aside0.mk (hbox); have n2_ := Aside0.mk ((by rw [hg]; exact (below_size (by repeat (first | (with_reducible first | exact HB.out | apply below_alloc | apply pw_below_drewN | apply below_drew1) | exact HB.out))) : w.heap.size ≤ gb103)); have n3_ := Aside0.mk ((by rw [hg]; exact (below_size (by repeat (first | (with_reducible first | exact HB.out | apply below_alloc | apply pw_below_drewN | apply below_drew1) | exact HB.out))) : w.heap.size ≤ gb103)); clear HB; have HB := n0_; have BK103 := n1_; have GW103 := n2_; have GE103 := n3_; clear n0_ n1_ n2_ n3_; clear hb hbox hg; have hcz6_0 : w5.cell? ⟨gb103, 0, none⟩ = some (.int .i64 a0_0) := (blk_cell BK103.out 0).trans rfl; have hcz6_1 : w5.cell? ⟨gb103, 1, none⟩ = some (.int .i64 a0_1) := (blk_cell BK103.out 1).trans rfl; have hcz6_2 : w5.cell? ⟨gb103, 2, none⟩ = some (.slice A0_2 l0_2.length c0_2) := (blk_cell BK103.out 2).trans rfl; have hfz6_0 := blk_frozen BK103.out 0; have hfz6_1 := blk_frozen BK103.out 1; have hfz6_2 := blk_frozen BK103.out 2))
    go_loopg [12] k (fun kq v12 w' => ∃ (x12_1 : Int), v12 = .int .i64 x12_1 ∧ Aside0 (laminalaw17_large.l0 kq l0_2 (l0_2.length : Int) x12_1 = some r) ∧ Aside0 (kq ≤ k) ∧ Aside0 (w'.heap[gb103]? = some (.cells #[.int .i64 a0_0, .int .i64 a0_1, (.slice A0_2 l0_2.length c0_2)] 24 (0, 0))) ∧ Aside0 (Below w.heap.size w w'))
    case atStart => exact ⟨(0), (by first | rfl | (simp; done) | (simp [*]; done)), H', ⟨Nat.le_refl _⟩, ⟨by (with_reducible repeat (first | refine blk_drewN ?_ _ | refine blk_drew ?_ | refine blk_alloc ?_ _)); exact BK103.out⟩, ⟨by repeat (first | (with_reducible first | exact HB.out | apply below_alloc | apply pw_below_drewN | apply below_drew1 | refine below_set ?_ GE103.out) | exact HB.out)⟩⟩
    case round =>
      clear H'
      try clear c2
      try clear c2b0
      try clear c2b1
      try clear p2
      try clear hcz4_0
      try clear hcz4_1
      try clear hcz4_2
      try clear hcz6_0
      try clear hcz6_1
      try clear hcz6_2
      try clear hfz4_0
      try clear hfz4_1
      try clear hfz4_2
      try clear hfz6_0
      try clear hfz6_1
      try clear hfz6_2
      obtain ⟨x12_1, rfl, HA, HK1, BK103, HB⟩ := hrel
      cases gk with
      | zero => exact absurd HA.out (by simp [laminalaw17_large.l0])
      | succ k1 =>
        have H := HA.out
        clear HA
        simp only [laminalaw17_large.l0] at H
        by_cases c7 : x12_1 < (l0_2.length : Int)
        · rw [if_pos c7] at H
          have c7b0 : decide (x12_1 < (l0_2.length : Int)) = true := decide_eq_true c7
          clear c7
          by_cases c8 : 0 ≤ x12_1
          · rw [if_pos c8] at H
            have c8b0 : decide (0 ≤ x12_1) = true := decide_eq_true c8
            clear c8
            by_cases c9 : x12_1 < (l0_2.length : Int)
            · rw [if_pos c9] at H
              have c9b0 : decide (x12_1 < (l0_2.length : Int)) = true := decide_eq_true c9
              clear c9
              by_cases c10 : (((rd_T65 l0_2 x12_1).f3).length : Int) > 1000
              · rw [if_pos c10] at H
                have c10b0 : decide (1000 < (((rd_T65 l0_2 x12_1).f3).length : Int)) = true := decide_eq_true c10
                have c10b1 : decide (1000 < ((rd_T65 l0_2 x12_1).f3).length) = true := decide_eq_true (by omega)
                clear c10
                obtain rfl := Option.some.inj H
                have p104 : 0 ≤ (x12_1 : Int) := of_decide_eq_true (by first | (with_reducible assumption) | assumption)
                have q104 : x12_1 < (l0_2.length : Int) := of_decide_eq_true (by first | (with_reducible assumption) | assumption)
                obtain ⟨ad104, A104_3, c104_3, e104, hx104_0, hx104_1, hx104_2, hx104_3, hl104_3, hi104_3⟩ := at_T65 HR0_2.out x12_1 p104 q104
                cases e104
                replace hx104_0 := (HB.out.cell (World.block_lt_of_cell? w _ hx104_0)).trans hx104_0
                replace hx104_1 := (HB.out.cell (World.block_lt_of_cell? w _ hx104_1)).trans hx104_1
                replace hx104_2 := (HB.out.cell (World.block_lt_of_cell? w _ hx104_2)).trans hx104_2
                replace hx104_3 := (HB.out.cell (World.block_lt_of_cell? w _ hx104_3)).trans hx104_3
                have HR104_3 := Aside0.mk hi104_3
                have HC104_3 := Aside0.mk hl104_3
                clear hi104_3 hl104_3
                replace p104 := eq_true p104
                replace q104 := eq_true q104
                go_wp2_with (first | ((with_reducible refine gate_dst (N := 4) rfl ?_); refine box_event ?hg (N := 4) ?hd (cs := #[.int .i64 0, .int .i64 0, .bool false, .slice none 0 0]) (t := 65) ?hr ?_; (case hd => rfl); (case hg => rfl); (case hr => first | (go_simp; done) | (go_simp; rfl)); intro gb105 hg w11 hbox hb; have n0_ := Aside0.mk (blk_below (g := gb103) (o := .cells #[.int .i64 a0_0, .int .i64 a0_1, .slice (some ad104) l0_2.length c0_2] 24 (0, 0)) (by (with_reducible repeat (first | refine blk_drewN ?_ _ | refine blk_drew ?_ | refine blk_alloc ?_ _)); exact BK103.out) hb); have n1_ := Aside0.mk (below_step (by repeat (first | (with_reducible first | exact HB.out | apply below_alloc | apply pw_below_drewN | apply below_drew1 | refine below_set ?_ GE103.out) | exact HB.out)) hb); have n2_ := Aside0.mk (hbox); have n3_ := Aside0.mk ((by rw [hg]; exact (below_size (by repeat (first | (with_reducible first | exact HB.out | apply below_alloc | apply pw_below_drewN | apply below_drew1 | refine below_set ?_ GE103.out) | exact HB.out))) : w.heap.size ≤ gb105)); have n4_ := Aside0.mk ((by rw [hg]; exact (below_size (by repeat (first | (with_reducible first | exact HB.out | apply below_alloc | apply pw_below_drewN | apply below_drew1 | refine below_set ?_ GE103.out) | exact HB.out))) : w.heap.size ≤ gb105)); have n5_ := Aside0.mk ((by rw [hg]; exact Nat.ne_of_lt (blk_lt (g := gb103) (o := .cells #[.int .i64 a0_0, .int .i64 a0_1, .slice (some ad104) l0_2.length c0_2] 24 (0, 0)) (by (with_reducible repeat (first | refine blk_drewN ?_ _ | refine blk_drew ?_ | refine blk_alloc ?_ _)); exact BK103.out)) : gb103 ≠ gb105)); have n6_ := Aside0.mk ((by rw [hg]; exact Nat.ne_of_gt (blk_lt (g := gb103) (o := .cells #[.int .i64 a0_0, .int .i64 a0_1, .slice (some ad104) l0_2.length c0_2] 24 (0, 0)) (by (with_reducible repeat (first | refine blk_drewN ?_ _ | refine blk_drew ?_ | refine blk_alloc ?_ _)); exact BK103.out)) : gb105 ≠ gb103)); clear BK103; clear HB; have BK103 := n0_; have HB := n1_; have BK105 := n2_; have GW105 := n3_; have GE105 := n4_; have NB103_105 := n5_; have NB105_103 := n6_; clear n0_ n1_ n2_ n3_ n4_ n5_ n6_; clear hb hbox hg; have hnb12 := NB105_103.out; have hnc12 := NB103_105.out; have hcz13_0 : w11.cell? ⟨gb105, 0, none⟩ = some (.int .i64 0) := (blk_cell BK105.out 0).trans rfl; have hcz13_1 : w11.cell? ⟨gb105, 1, none⟩ = some (.int .i64 0) := (blk_cell BK105.out 1).trans rfl; have hcz13_2 : w11.cell? ⟨gb105, 2, none⟩ = some (.bool false) := (blk_cell BK105.out 2).trans rfl; have hcz13_3 : w11.cell? ⟨gb105, 3, none⟩ = some (.slice none 0 0) := (blk_cell BK105.out 3).trans rfl; have hfz13_0 := blk_frozen BK105.out 0; have hfz13_1 := blk_frozen BK105.out 1; have hfz13_2 := blk_frozen BK105.out 2; have hfz13_3 := blk_frozen BK105.out 3))
                go_ret
                exact ⟨by first | rfl | (simp [errW_none, errW_some] <;> rfl) | (simp [*, errW_none, errW_some] <;> rfl), by repeat (first | (with_reducible first | exact HB.out | apply below_alloc | apply pw_below_drewN | apply below_drew1 | refine below_set ?_ GE103.out | refine below_set ?_ GE105.out) | exact HB.out)⟩
              · rw [if_neg c10] at H
                have c10b0 : decide (1000 < (((rd_T65 l0_2 x12_1).f3).length : Int)) = false := decide_eq_false c10
                have c10b1 : decide (1000 < ((rd_T65 l0_2 x12_1).f3).length) = false := decide_eq_false (by omega)
                clear c10
                have H' := Aside0.mk H
                clear H
                have p104 : 0 ≤ (x12_1 : Int) := of_decide_eq_true (by first | (with_reducible assumption) | assumption)
                have q104 : x12_1 < (l0_2.length : Int) := of_decide_eq_true (by first | (with_reducible assumption) | assumption)
                obtain ⟨ad104, A104_3, c104_3, e104, hx104_0, hx104_1, hx104_2, hx104_3, hl104_3, hi104_3⟩ := at_T65 HR0_2.out x12_1 p104 q104
                cases e104
                replace hx104_0 := (HB.out.cell (World.block_lt_of_cell? w _ hx104_0)).trans hx104_0
                replace hx104_1 := (HB.out.cell (World.block_lt_of_cell? w _ hx104_1)).trans hx104_1
                replace hx104_2 := (HB.out.cell (World.block_lt_of_cell? w _ hx104_2)).trans hx104_2
                replace hx104_3 := (HB.out.cell (World.block_lt_of_cell? w _ hx104_3)).trans hx104_3
                have HR104_3 := Aside0.mk hi104_3
                have HC104_3 := Aside0.mk hl104_3
                clear hi104_3 hl104_3
                replace p104 := eq_true p104
                replace q104 := eq_true q104
                go_wp2_with (first | ((with_reducible refine gate_dst (N := 4) rfl ?_); refine box_event ?hg (N := 4) ?hd (cs := #[.int .i64 0, .int .i64 0, .bool false, .slice none 0 0]) (t := 65) ?hr ?_; (case hd => rfl); (case hg => rfl); (case hr => first | (go_simp; done) | (go_simp; rfl)); intro gb105 hg w14 hbox hb; have n0_ := Aside0.mk (blk_below (g := gb103) (o := .cells #[.int .i64 a0_0, .int .i64 a0_1, .slice (some ad104) l0_2.length c0_2] 24 (0, 0)) (by (with_reducible repeat (first | refine blk_drewN ?_ _ | refine blk_drew ?_ | refine blk_alloc ?_ _)); exact BK103.out) hb); have n1_ := Aside0.mk (below_step (by repeat (first | (with_reducible first | exact HB.out | apply below_alloc | apply pw_below_drewN | apply below_drew1 | refine below_set ?_ GE103.out) | exact HB.out)) hb); have n2_ := Aside0.mk (hbox); have n3_ := Aside0.mk ((by rw [hg]; exact (below_size (by repeat (first | (with_reducible first | exact HB.out | apply below_alloc | apply pw_below_drewN | apply below_drew1 | refine below_set ?_ GE103.out) | exact HB.out))) : w.heap.size ≤ gb105)); have n4_ := Aside0.mk ((by rw [hg]; exact (below_size (by repeat (first | (with_reducible first | exact HB.out | apply below_alloc | apply pw_below_drewN | apply below_drew1 | refine below_set ?_ GE103.out) | exact HB.out))) : w.heap.size ≤ gb105)); have n5_ := Aside0.mk ((by rw [hg]; exact Nat.ne_of_lt (blk_lt (g := gb103) (o := .cells #[.int .i64 a0_0, .int .i64 a0_1, .slice (some ad104) l0_2.length c0_2] 24 (0, 0)) (by (with_reducible repeat (first | refine blk_drewN ?_ _ | refine blk_drew ?_ | refine blk_alloc ?_ _)); exact BK103.out)) : gb103 ≠ gb105)); have n6_ := Aside0.mk ((by rw [hg]; exact Nat.ne_of_gt (blk_lt (g := gb103) (o := .cells #[.int .i64 a0_0, .int .i64 a0_1, .slice (some ad104) l0_2.length c0_2] 24 (0, 0)) (by (with_reducible repeat (first | refine blk_drewN ?_ _ | refine blk_drew ?_ | refine blk_alloc ?_ _)); exact BK103.out)) : gb105 ≠ gb103)); clear BK103; clear HB; have BK103 := n0_; have HB := n1_; have BK105 := n2_; have GW105 := n3_; have GE105 := n4_; have NB103_105 := n5_; have NB105_103 := n6_; clear n0_ n1_ n2_ n3_ n4_ n5_ n6_; clear hb hbox hg; have hnb15 := NB105_103.out; have hnc15 := NB103_105.out; have hcz16_0 : w14.cell? ⟨gb105, 0, none⟩ = some (.int .i64 0) := (blk_cell BK105.out 0).trans rfl; have hcz16_1 : w14.cell? ⟨gb105, 1, none⟩ = some (.int .i64 0) := (blk_cell BK105.out 1).trans rfl; have hcz16_2 : w14.cell? ⟨gb105, 2, none⟩ = some (.bool false) := (blk_cell BK105.out 2).trans rfl; have hcz16_3 : w14.cell? ⟨gb105, 3, none⟩ = some (.slice none 0 0) := (blk_cell BK105.out 3).trans rfl; have hfz16_0 := blk_frozen BK105.out 0; have hfz16_1 := blk_frozen BK105.out 1; have hfz16_2 := blk_frozen BK105.out 2; have hfz16_3 := blk_frozen BK105.out 3))
                go_roundg k1
                case measure => have := HK1.out; omega
                case rel => exact ⟨(wrap64 (x12_1 + 1)), (by first | rfl | (simp; done) | (simp [*]; done)), H', ⟨by have := HK1.out; omega⟩, ⟨by (with_reducible repeat (first | refine blk_drewN ?_ _ | refine blk_drew ?_ | refine blk_alloc ?_ _)); refine blk_far ?_ NB103_105.out _; (with_reducible repeat (first | refine blk_drewN ?_ _ | refine blk_drew ?_ | refine blk_alloc ?_ _)); refine blk_far ?_ NB103_105.out _; (with_reducible repeat (first | refine blk_drewN ?_ _ | refine blk_drew ?_ | refine blk_alloc ?_ _)); refine blk_far ?_ NB103_105.out _; (with_reducible repeat (first | refine blk_drewN ?_ _ | refine blk_drew ?_ | refine blk_alloc ?_ _)); refine blk_far ?_ NB103_105.out _; (with_reducible repeat (first | refine blk_drewN ?_ _ | refine blk_drew ?_ | refine blk_alloc ?_ _)); exact BK103.out⟩, ⟨by repeat (first | (with_reducible first | exact HB.out | apply below_alloc | apply pw_below_drewN | apply below_drew1 | refine below_set ?_ GE103.out | refine below_set ?_ GE105.out) | exact HB.out)⟩⟩
            · rw [if_neg c9] at H
              exact absurd H (by simp)
          · rw [if_neg c8] at H
            exact absurd H (by simp)
        · rw [if_neg c7] at H
          have c7b0 : decide (x12_1 < (l0_2.length : Int)) = false := decide_eq_false c7
          clear c7
          obtain rfl := Option.some.inj H
          go_wp2
          go_ret
          exact ⟨by first | rfl | (simp [errW_none, errW_some] <;> rfl) | (simp [*, errW_none, errW_some] <;> rfl), by repeat (first | (with_reducible first | exact HB.out | apply below_alloc | apply pw_below_drewN | apply below_drew1 | refine below_set ?_ GE103.out) | exact HB.out)⟩

end Go.Proofs.Ytdehifinipmmcaa.Hp
