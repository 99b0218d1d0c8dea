/- Words of this session: what a value of a type that was read as data is, as a kind of the printer's: whole numbers, bools, strings, slices, structs, nested as they like. -/
import Derived.OpenShut
import Derived.SizedLaws
import Derived.Test.YtjoledofiindcaaWMore
namespace Go.Proofs.Ytjoledofiindcaa.Ho
open Go.RowKit Go.Proofs.YtjoledofiindcaaW.PrintWords Go.Proofs.YtjoledofiindcaaW.PrintLast Go.Proofs.YtjoledofiindcaaW.PrintMore
set_option linter.unusedVariables false
/-- Whatever of type T can be read as data (and takes no more memory than the reach) is a value of this kind, and G holds of it. -/
def Opens {α : Type} (P : Program) (T : TypeId) (d : Kd α) (G : α → Prop) : Prop :=
  ∀ {H : Type} {enc : TypeId × Value → H} {w : World} {base : Nat} {spare : Nat → Bool} {held : Bool} {fuel : Nat} {cs : List Value} {x : DataW H × List MemPlace},
    DataW.trod enc P w base spare held fuel T cs = some x → (∀ n ∈ x.1.weights P T, n ≤ 140737488351232) → ∃ a, d.K w a cs ∧ G a
section
variable {P : Program}
theorem opens_int {T : TypeId} {k : IntKind} (ht : P.underlying T = some (.int k)) : Opens P T (Kd.int k) (fun n => (Lit.int k n).wf = true) := by
  intro H enc w base spare held fuel cs x h _
  obtain ⟨n, rfl, _, hw⟩ := DataW.trod_int ht h
  exact ⟨n, rfl, hw⟩
theorem opens_bool {T : TypeId} (ht : P.underlying T = some .bool) : Opens P T Kd.bool (fun _ => True) := by
  intro H enc w base spare held fuel cs x h _
  obtain ⟨b, rfl, _⟩ := DataW.trod_bool ht h
  exact ⟨b, rfl, trivial⟩
theorem opens_string {T : TypeId} (ht : P.underlying T = some .string) : Opens P T Kd.string (fun s => s.size ≤ 140737488351232) := by
  intro H enc w base spare held fuel cs x h hw
  obtain ⟨s, rfl, rfl, _⟩ := DataW.trod_string ht h
  refine ⟨s, rfl, ?_⟩
  have := hw s.data.toList.length (by simp [DataW.weights])
  rwa [data_length] at this
theorem choose_list {α : Type} (Q : Nat → α → Prop) : ∀ n : Nat, (∀ i, i < n → ∃ x, Q i x) → ∃ l : List α, l.length = n ∧ ∀ (i : Nat) (x : α), l[i]? = some x → Q i x
  | 0, _ => ⟨[], rfl, fun i x h => by simp at h⟩
  | n + 1, h => by
    obtain ⟨l, hl, hq⟩ := choose_list Q n (fun i hi => h i (by omega))
    obtain ⟨x, hx⟩ := h n (by omega)
    refine ⟨l ++ [x], by simp [hl], fun i y hy => ?_⟩
    rcases Nat.lt_or_ge i n with hi | hi
    · rw [List.getElem?_append_left (by omega)] at hy
      exact hq i y hy
    · have : i = n := by
        have := (List.getElem?_eq_some_iff.1 hy).1
        simp at this
        omega
      subst this
      rw [List.getElem?_append_right (by omega), hl] at hy
      simp at hy
      exact hy ▸ hx
theorem weightsAll_mem {H : Type} {e : TypeId} {d : DataW H} {n : Nat} : ∀ {l : List (DataW H)}, d ∈ l → n ∈ d.weights P e → n ∈ DataW.weightsAll P e l
  | [], h, _ => by cases h
  | a :: l, h, hn => by
    rw [DataW.weightsAll]
    rcases List.mem_cons.1 h with rfl | h
    · exact List.mem_append_left _ hn
    · exact List.mem_append_right _ (weightsAll_mem h hn)
theorem opens_slice {α : Type} {T e : TypeId} {d : Kd α} {G : α → Prop} {B : Nat} (ht : P.underlying T = some (.slice e)) (hc : P.cellsOf e = d.sz) (hB : P.bytesOf e = B) (he : Opens P e d G) :
    Opens P T (Kd.slice e d) (fun l => l.length * B ≤ 140737488351232 ∧ ∀ x ∈ l, G x) := by
  intro H enc w base spare held fuel cs x h hw
  rcases DataW.trod_slice ht h with ⟨rfl, _⟩ | ⟨a, len, cap, elems, rest, n, _, rfl, rfl, hb, hl, hm, hlen, hel, _, _⟩
  · exact ⟨[], ⟨none, 0, rfl, Nat.le_refl _, Kd.C_nil _ _⟩, by simp, fun y hy => by cases hy⟩
  · have hws : ∀ y ∈ elems, ∀ m ∈ y.1.weights P e, m ≤ 140737488351232 := by
      intro y hy m hm'
      refine hw m ?_
      simp only [DataW.weights, ht]
      refine List.mem_cons_of_mem _ (List.mem_append_left _ (weightsAll_mem (d := y.1) (List.mem_map.2 ⟨y, hy, rfl⟩) hm'))
    have hsz := hw ((elems.length + rest.length) * P.bytesOf e) (by simp [DataW.weights, ht])
    have each : ∀ i, i < len → ∃ y, (∃ cs', w.cells? base (a.add (i * P.cellsOf e)) (P.cellsOf e) = some cs' ∧ d.K w y cs') ∧ G y := by
      intro i hi
      have h1 := hel i hi
      have h2 : i < elems.length := by omega
      rw [List.getElem?_eq_getElem h2, Option.bind_eq_some_iff] at h1
      obtain ⟨cs', hcs, hy⟩ := h1
      obtain ⟨y, hk, hg⟩ := he hy (hws _ (List.getElem_mem h2))
      exact ⟨y, ⟨cs', hcs, hk⟩, hg⟩
    obtain ⟨l, hll, hlq⟩ := choose_list _ len each
    subst hll
    refine ⟨l, ⟨some a, cap, rfl, hl, rfl, by unfold maxLen at hm; omega, fun _ => ⟨a, rfl, fun j p hj => ?_⟩⟩, ?_, fun y hy => ?_⟩
    · obtain ⟨⟨cs', hcs, hk⟩, _⟩ := hlq j p hj
      have hcl := d.K_len hk
      rw [hc] at hcs
      have hs := World.cells?_some hcs
      refine ⟨cs', hcl, hk, fun i u hu => ?_⟩
      have := hs.2.2 i (by have := (List.getElem?_eq_some_iff.1 hu).1; omega)
      rwa [add_add, hu] at this
    · rw [hlen, hB] at hsz
      exact Nat.le_trans (Nat.mul_le_mul_right _ (by omega)) hsz
    · obtain ⟨i, hi⟩ := List.mem_iff_getElem?.1 hy
      exact (hlq i y hi).2
/-- The fields fs, the first one's cells from place o on. -/
def OpensF {α : Type} (P : Program) (fs : List Field) (o : Nat) (d : Kd α) (G : α → Prop) : Prop :=
  ∀ {H : Type} {enc : TypeId × Value → H} {w : World} {base : Nat} {spare : Nat → Bool} {held : Bool} {fuel : Nat} {cs : List Value} {xs : List (DataW H × List MemPlace)}, xs.length = fs.length →
    (∀ (i : Nat) (f : Field), fs[i]? = some f → DataW.trod enc P w base spare held fuel f.type ((cs.drop f.offset).take (P.cellsOf f.type)) = xs[i]?) → cs.length = o + d.sz →
    (∀ (i : Nat) (f : Field) (y : DataW H × List MemPlace), fs[i]? = some f → xs[i]? = some y → ∀ n ∈ y.1.weights P f.type, n ≤ 140737488351232) → ∃ a, d.K w a (cs.drop o) ∧ G a
theorem opensF_one {α : Type} {f : Field} {o : Nat} {d : Kd α} {G : α → Prop} (ho : f.offset = o) (hc : P.cellsOf f.type = d.sz) (he : Opens P f.type d G) : OpensF P [f] o d G := by
  intro H enc w base spare held fuel cs xs hl ht hcs hw
  have h0 := ht 0 f rfl
  obtain ⟨y, rfl⟩ : ∃ y, xs = [y] := by
    match xs, hl with
    | [y], _ => exact ⟨y, rfl⟩
  obtain ⟨a, hk, hg⟩ := he h0 (hw 0 f y rfl rfl)
  rw [ho, hc, List.take_of_length_le (by rw [List.length_drop]; omega)] at hk
  exact ⟨a, hk, hg⟩
theorem opensF_cons {α β : Type} {f : Field} {fs : List Field} {o : Nat} {d1 : Kd α} {d2 : Kd β} {G1 : α → Prop} {G2 : β → Prop} (ho : f.offset = o) (hc : P.cellsOf f.type = d1.sz) (h1 : Opens P f.type d1 G1) (h2 : OpensF P fs (o + d1.sz) d2 G2) :
    OpensF P (f :: fs) o (Kd.pair d1 d2) (fun p => G1 p.1 ∧ G2 p.2) := by
  intro H enc w base spare held fuel cs xs hl ht hcs hw
  have hsz : (Kd.pair d1 d2).sz = d1.sz + d2.sz := rfl
  rw [hsz] at hcs
  obtain ⟨y, ys, rfl⟩ : ∃ y ys, xs = y :: ys := by
    match xs, hl with
    | y :: ys, _ => exact ⟨y, ys, rfl⟩
  have h0 := ht 0 f rfl
  obtain ⟨a, hk, hg⟩ := h1 h0 (hw 0 f y rfl rfl)
  rw [ho, hc] at hk
  obtain ⟨b, hk2, hg2⟩ := h2 (fuel := fuel) (cs := cs) (xs := ys) (by simpa using hl) (fun i g hg => ht (i + 1) g (by simpa using hg)) (by omega) (fun i g z hg hz => hw (i + 1) g z (by simpa using hg) (by simpa using hz))
  refine ⟨(a, b), ⟨_, _, ?_, hk, hk2⟩, hg, hg2⟩
  rw [← List.drop_drop, List.take_append_drop]
theorem opens_struct {α : Type} {T : TypeId} {fs : Array Field} {d : Kd α} {G : α → Prop} (ht : P.underlying T = some (.struct fs)) (hc : P.cellsOf T = d.sz) (h : OpensF P fs.toList 0 d G) : Opens P T d G := by
  intro H enc w base spare held fuel cs x hx hw
  obtain ⟨xs, n, _, rfl, hl, hxl, hf⟩ := DataW.trod_struct ht hx
  have := h (enc := enc) (w := w) (base := base) (spare := spare) (held := held) (fuel := n) (cs := cs) (xs := xs) (by simpa using hxl) (fun i f hi => hf i f (by simpa using hi)) (by omega) (fun i f y hi hy m hm => by
    refine hw m ?_
    simp only [DataW.weights, ht]
    refine DataW.weights_mem_each (j := i) (t := f.type) (d := y.1) ?_ ?_ m hm
    · simp only [List.getElem?_map, hi, Option.map_some]
    · simp only [List.getElem?_map, hy, Option.map_some])
  simpa using this
theorem opens_iso {α β : Type} {T : TypeId} {d : Kd α} {f : β → α} {G : α → Prop} (g : α → β) (hg : ∀ a, f (g a) = a) (h : Opens P T d G) : Opens P T (Kd.iso d f) (fun b => G (f b)) := by
  intro H enc w base spare held fuel cs x hx hw
  obtain ⟨a, hk, hG⟩ := h hx hw
  exact ⟨g a, by show d.K w (f (g a)) cs; rw [hg]; exact hk, by show G (f (g a)); rw [hg]; exact hG⟩
end
end Go.Proofs.Ytjoledofiindcaa.Ho
