/- Arguments that came in: formulas, lists of formulas. -/
import Derived.Test.YtdobflpbkfkmgaaDoorLaid
import Derived.Test.YtdobflpbkfkmgaaDoorMju
import Derived.WalkKit
import Derived.ProofKit
import Derived.OpenShut
import Derived.ChangeOld
import Derived.Below
import Derived.Deep.SlicePairs
namespace Go.Proofs.YtdobflpbkfkmgaaDoor
open Go.RowKit Go.HK Go.FR Go.ChangeShapes Go.WideShapes Go.ChangeAt
set_option linter.unusedVariables false
set_option linter.unusedSimpArgs false
set_option linter.unusedSectionVars false
/-- Element i of a slice whose elements are m cells holds these. -/
def RowAt (W : World) (s : SL) (m i : Nat) (vs : List Value) : Prop :=
  ∃ g o, s.a = some ⟨g, o, none⟩ ∧ g < W.heap.size ∧ ∀ (j : Nat) v, vs[j]? = some v → W.cell? ⟨g, o + i * m + j, none⟩ = some v
theorem list_cons {α : Type} {n : Nat} {l : List α} (h : l.length = n + 1) : ∃ a t, l = a :: t ∧ t.length = n := by
  cases l with
  | nil => simp at h
  | cons a t => exact ⟨a, t, rfl, by simpa using h⟩
theorem list1 {α : Type} {l : List α} (h : l.length = 1) : ∃ a, l = [a] := by
  obtain ⟨a, t, h1, h2⟩ := list_cons h
  exact ⟨a, by rw [h1, List.length_eq_zero_iff.1 h2]⟩
theorem list3 {α : Type} {l : List α} (h : l.length = 3) : ∃ a b c, l = [a, b, c] := by
  obtain ⟨a, t, h1, h2⟩ := list_cons h
  obtain ⟨b, t2, h3, h4⟩ := list_cons h2
  obtain ⟨c, h5⟩ := list1 h4
  exact ⟨a, b, c, by rw [h1, h3, h5]⟩
theorem list4 {α : Type} {l : List α} (h : l.length = 4) : ∃ a b c d, l = [a, b, c, d] := by
  obtain ⟨a, t, h1, h2⟩ := list_cons h
  obtain ⟨b, c, d, h3⟩ := list3 h2
  exact ⟨a, b, c, d, by rw [h1, h3]⟩
/-- Terms off rows. -/
theorem ts_of_rows {w : World} {s : SL} (hs : s.n ≤ 9223372036854775807) (h : ∀ i, i < s.n → ∃ (t : Tm) (q : SL), RowAt w s 3 i (tmV t q) ∧ IsTs (fun k => k < w.heap.size) w q t.args ∧ szT t ∧ t.name.size ≤ maxLen) :
    ∃ ts, IsTs (fun k => k < w.heap.size) w s ts ∧ szA ts := by
  obtain ⟨ga, gn, gc⟩ := s
  simp only at hs h
  by_cases h0 : gn = 0
  · subst h0
    exact ⟨[], .nil _ _, by simp, by unfold szTs; trivial⟩
  · obtain ⟨f, hfp⟩ : ∃ f : Nat → Tm × SL, ∀ i, i < gn → RowAt w ⟨ga, gn, gc⟩ 3 i (tmV (f i).1 (f i).2) ∧ IsTs (fun k => k < w.heap.size) w (f i).2 (f i).1.args ∧ szT (f i).1 ∧ (f i).1.name.size ≤ maxLen :=
      ⟨fun i => if h1 : i < gn then (Classical.choose (h i h1), Classical.choose (Classical.choose_spec (h i h1))) else (.mk false ⟨#[]⟩ [], ⟨none, 0, 0⟩), fun i hi => by
        simp only [dif_pos hi]
        exact Classical.choose_spec (Classical.choose_spec (h i hi))⟩
    obtain ⟨g, o, hga, hg, _⟩ := (hfp 0 (by omega)).1
    simp only at hga
    subst hga
    have hget : ∀ (i : Nat) u, ((List.range gn).map fun i => (f i).1)[i]? = some u → i < gn ∧ u = (f i).1 := fun i u hu => by
      rw [List.getElem?_map] at hu
      obtain ⟨k, hk, rfl⟩ := Option.map_eq_some_iff.1 hu
      obtain ⟨hlt, he⟩ := List.getElem?_eq_some_iff.1 hk
      simp only [List.length_range] at hlt
      simp only [List.getElem_range] at he
      subst he
      exact ⟨hlt, rfl⟩
    have hmem : ∀ t ∈ ((List.range gn).map fun i => (f i).1), szT t ∧ t.name.size ≤ maxLen := fun t ht => by
      obtain ⟨i, hi⟩ := List.mem_iff_getElem?.1 ht
      obtain ⟨hlt, rfl⟩ := hget i t hi
      exact (hfp i hlt).2.2
    refine ⟨(List.range gn).map fun i => (f i).1, ?_, by simpa using hs, ?_⟩
    · have := IsTs.row (S := fun k => k < w.heap.size) (W := w) g o gc ((List.range gn).map fun i => (f i).1) (fun i => (f i).2) hg (fun i t ht j v hv => by
        obtain ⟨hlt, rfl⟩ := hget i t ht
        obtain ⟨g', o', he', _, hc⟩ := (hfp i hlt).1
        simp only [Option.some.injEq, Addr.mk.injEq, and_true] at he'
        obtain ⟨rfl, rfl⟩ := he'
        exact hc j v hv) (fun i t ht => by
        obtain ⟨hlt, rfl⟩ := hget i t ht
        exact (hfp i hlt).2.1) (fun t ht => (hmem t ht).2)
      simpa using this
    · have : ∀ l : List Tm, (∀ t ∈ l, szT t) → szTs l := fun l hl => by
        induction l with
        | nil => unfold szTs; trivial
        | cons x r ih => unfold szTs; exact ⟨hl x (by simp), ih fun t ht => hl t (by simp [ht])⟩
      exact this _ fun t ht => (hmem t ht).1
/-- Formulas off rows. -/
theorem fs_of_rows {w : World} {s : SL} (hs : s.n ≤ 9223372036854775807) (h : ∀ i, i < s.n → ∃ (t : Fm) (p q : SL), RowAt w s 4 i (fmV t p q) ∧ IsTs (fun k => k < w.heap.size) w p t.args ∧ IsFs (fun k => k < w.heap.size) w q t.subs ∧ szF t ∧ t.op < 256 ∧ t.name.size ≤ maxLen) :
    ∃ ts, IsFs (fun k => k < w.heap.size) w s ts ∧ ts.length ≤ 9223372036854775807 ∧ szFs ts := by
  obtain ⟨ga, gn, gc⟩ := s
  simp only at hs h
  by_cases h0 : gn = 0
  · subst h0
    exact ⟨[], .nil _ _, by simp, by unfold szFs; trivial⟩
  · obtain ⟨f, hfp⟩ : ∃ f : Nat → Fm × SL × SL, ∀ i, i < gn → RowAt w ⟨ga, gn, gc⟩ 4 i (fmV (f i).1 (f i).2.1 (f i).2.2) ∧ IsTs (fun k => k < w.heap.size) w (f i).2.1 (f i).1.args ∧ IsFs (fun k => k < w.heap.size) w (f i).2.2 (f i).1.subs ∧ szF (f i).1 ∧ (f i).1.op < 256 ∧ (f i).1.name.size ≤ maxLen :=
      ⟨fun i => if h1 : i < gn then (Classical.choose (h i h1), Classical.choose (Classical.choose_spec (h i h1)), Classical.choose (Classical.choose_spec (Classical.choose_spec (h i h1)))) else (.mk 0 ⟨#[]⟩ [] [], ⟨none, 0, 0⟩, ⟨none, 0, 0⟩), fun i hi => by
        simp only [dif_pos hi]
        exact Classical.choose_spec (Classical.choose_spec (Classical.choose_spec (h i hi)))⟩
    obtain ⟨g, o, hga, hg, _⟩ := (hfp 0 (by omega)).1
    simp only at hga
    subst hga
    have hget : ∀ (i : Nat) u, ((List.range gn).map fun i => (f i).1)[i]? = some u → i < gn ∧ u = (f i).1 := fun i u hu => by
      rw [List.getElem?_map] at hu
      obtain ⟨k, hk, rfl⟩ := Option.map_eq_some_iff.1 hu
      obtain ⟨hlt, he⟩ := List.getElem?_eq_some_iff.1 hk
      simp only [List.length_range] at hlt
      simp only [List.getElem_range] at he
      subst he
      exact ⟨hlt, rfl⟩
    have hmem : ∀ t ∈ ((List.range gn).map fun i => (f i).1), szF t ∧ t.op < 256 ∧ t.name.size ≤ maxLen := fun t ht => by
      obtain ⟨i, hi⟩ := List.mem_iff_getElem?.1 ht
      obtain ⟨hlt, rfl⟩ := hget i t hi
      exact (hfp i hlt).2.2.2
    refine ⟨(List.range gn).map fun i => (f i).1, ?_, by simpa using hs, ?_⟩
    · have := IsFs.row (S := fun k => k < w.heap.size) (W := w) g o gc ((List.range gn).map fun i => (f i).1) (fun i => (f i).2.1) (fun i => (f i).2.2) hg (fun i t ht j v hv => by
        obtain ⟨hlt, rfl⟩ := hget i t ht
        obtain ⟨g', o', he', _, hc⟩ := (hfp i hlt).1
        simp only [Option.some.injEq, Addr.mk.injEq, and_true] at he'
        obtain ⟨rfl, rfl⟩ := he'
        exact hc j v hv) (fun i t ht => by
        obtain ⟨hlt, rfl⟩ := hget i t ht
        exact (hfp i hlt).2.1) (fun i t ht => by
        obtain ⟨hlt, rfl⟩ := hget i t ht
        exact (hfp i hlt).2.2.1) (fun t ht => (hmem t ht).2)
      simpa using this
    · have : ∀ l : List Fm, (∀ t ∈ l, szF t) → szFs l := fun l hl => by
        induction l with
        | nil => unfold szFs; trivial
        | cons x r ih => unfold szFs; exact ⟨hl x (by simp), ih fun t ht => hl t (by simp [ht])⟩
      exact this _ fun t ht => (hmem t ht).1
section
variable {H : Type} {enc : TypeId × Value → H} {w : World} {base : Nat} {spare : Nat → Bool} {held : Bool}
theorem cells_get {ad : Addr} {m : Nat} {cs : List Value} (h : w.cells? base ad m = some cs) : cs.length = m ∧ ∀ (j : Nat) u, cs[j]? = some u → w.cell? (ad.add j) = some u := by
  unfold World.cells? at h
  split at h
  · refine ⟨by simpa using mapM_some_length h, fun j u hu => ?_⟩
    have hj : j < m := by
      have := mapM_some_length h
      have := (List.getElem?_eq_some_iff.1 hu).1
      simp at *; omega
    have := mapM_some_get h j j (by simp [hj])
    rw [this, hu]
  · cases h
theorem slice_rows {t e : TypeId} {m fuel : Nat} {v : Value} {x : DataW H × List MemPlace} (ht : Tryd.prog.underlying t = some (.slice e)) (hce : Tryd.prog.cellsOf e = m) (hm : 0 < m) (h : DataW.trod enc Tryd.prog w base spare held fuel t [v] = some x) :
    ∃ s : SL, v = s.v ∧ s.n ≤ 9223372036854775807 ∧ (∃ n, n ≤ fuel ∧ (0 < s.n → fuel = n + 1) ∧ ∀ i, i < s.n → ∃ cs y, cs.length = m ∧ RowAt w s m i cs ∧ DataW.trod enc Tryd.prog w base spare held n e cs = some y) := by
  rcases DataW.trod_slice ht h with ⟨hcs, _⟩ | ⟨a, len, cap, elems, rest, n, hf, hcs, _, hb, hl, hmx, hlen, hel, _, _⟩
  · simp only [List.cons.injEq, and_true] at hcs
    exact ⟨⟨none, 0, 0⟩, hcs, Nat.zero_le _, fuel, Nat.le_refl _, fun h => absurd h (Nat.lt_irrefl 0), fun i hi => absurd hi (Nat.not_lt_zero i)⟩
  · simp only [List.cons.injEq, and_true] at hcs
    subst hcs hf
    rw [hce] at hel
    have hone : ∀ i, i < len → ∃ cs y, w.cells? base (a.add (i * m)) m = some cs ∧ DataW.trod enc Tryd.prog w base spare held n e cs = some y := fun i hi => by
      have h1 := hel i hi
      rw [List.getElem?_eq_getElem (by omega)] at h1
      obtain ⟨cs, h2, h3⟩ := Option.bind_eq_some_iff.1 h1
      exact ⟨cs, _, h2, h3⟩
    have hmx' : cap ≤ 9223372036854775807 := hmx
    refine ⟨⟨some a, len, cap⟩, rfl, by simp only; omega, n, Nat.le_succ _, fun _ => rfl, fun i hi => ?_⟩
    simp only at hi
    obtain ⟨cs0, _, h0, _⟩ := hone 0 (by omega)
    obtain ⟨g0, g1⟩ := cells_get h0
    obtain ⟨u0, hu0⟩ : ∃ u, cs0[0]? = some u := ⟨_, List.getElem?_eq_getElem (by omega)⟩
    have hc0 := g1 0 u0 hu0
    simp only [Nat.zero_mul, Addr.add, if_true] at hc0
    have hsp : a.spot = none := by
      unfold World.cell? at hc0
      split at hc0
      · split at hc0
        · cases hc0
        · rename_i hs; simpa using hs
      · cases hc0
    obtain ⟨gb, go, gs⟩ := a
    simp only at hsp
    subst hsp
    have hlt : gb < w.heap.size := World.block_lt_of_cell? w _ hc0
    obtain ⟨cs, y, h1, h2⟩ := hone i hi
    obtain ⟨k0, k1⟩ := cells_get h1
    refine ⟨cs, y, k0, ⟨gb, go, rfl, hlt, fun j u hu => ?_⟩, h2⟩
    have := k1 j u hu
    rw [Go.Deep.add_add] at this
    simp only [Addr.add] at this
    by_cases hz : i * m + j = 0
    · rw [if_pos hz] at this
      have e1 : go + i * m + j = go := by omega
      rw [e1]; exact this
    · rw [if_neg hz] at this
      rw [Nat.add_assoc]; exact this
theorem str_of {fuel : Nat} {v : Value} {x : DataW H × List MemPlace} (h : DataW.trod enc Tryd.prog w base spare held fuel 9 [v] = some x) : ∃ s, v = .string s ∧ s.size ≤ maxLen := by
  obtain ⟨s, hs, _, hz⟩ := DataW.trod_string Tryd.underlying9 h
  simp only [List.cons.injEq, and_true] at hs
  exact ⟨s, hs, hz⟩
theorem bool_of {fuel : Nat} {v : Value} {x : DataW H × List MemPlace} (h : DataW.trod enc Tryd.prog w base spare held fuel 4 [v] = some x) : ∃ b, v = .bool b := by
  obtain ⟨b, hb, _⟩ := DataW.trod_bool Tryd.underlying4 h
  simp only [List.cons.injEq, and_true] at hb
  exact ⟨b, hb⟩
theorem cellsF : Tryd.prog.cellsOf 25 = 4 := by kernel_rfl
theorem cellsT : Tryd.prog.cellsOf 53 = 3 := by kernel_rfl
theorem cellsB : Tryd.prog.cellsOf 4 = 1 := by kernel_rfl
theorem cellsU : Tryd.prog.cellsOf 5 = 1 := by kernel_rfl
theorem cellsS : Tryd.prog.cellsOf 9 = 1 := by kernel_rfl
theorem cellsTs : Tryd.prog.cellsOf 22 = 1 := by kernel_rfl
theorem cellsFs : Tryd.prog.cellsOf 23 = 1 := by kernel_rfl
theorem term_of_arg : ∀ {fuel : Nat} {cs : List Value} {x : DataW H × List MemPlace}, cs.length = 3 → DataW.trod enc Tryd.prog w base spare held fuel 53 cs = some x →
    ∃ (t : Tm) (q : SL), cs = tmV t q ∧ IsTs (fun k => k < w.heap.size) w q t.args ∧ szT t ∧ t.name.size ≤ maxLen := by
  intro fuel
  induction fuel using Nat.strongRecOn with
  | ind fuel ih =>
    intro cs x hl h
    obtain ⟨xs, n, hfn, _, _, hxl, hf⟩ := DataW.trod_struct Tryd.underlying53 h
    obtain ⟨c0, c1, c2, rfl⟩ := list3 hl
    have hxl : xs.length = 3 := hxl
    have f0 : DataW.trod enc Tryd.prog w base spare held n 4 (([c0, c1, c2].drop 0).take (Tryd.prog.cellsOf 4)) = xs[0]? := hf 0 _ rfl
    have f1 : DataW.trod enc Tryd.prog w base spare held n 9 (([c0, c1, c2].drop 1).take (Tryd.prog.cellsOf 9)) = xs[1]? := hf 1 _ rfl
    have f2 : DataW.trod enc Tryd.prog w base spare held n 22 (([c0, c1, c2].drop 2).take (Tryd.prog.cellsOf 22)) = xs[2]? := hf 2 _ rfl
    rw [cellsB] at f0
    rw [cellsS] at f1
    rw [cellsTs] at f2
    simp only [List.drop_zero, List.drop_succ_cons, List.take_succ_cons, List.take_zero] at f0 f1 f2
    rw [List.getElem?_eq_getElem (by omega)] at f0 f1 f2
    obtain ⟨b, rfl⟩ := bool_of f0
    obtain ⟨nm, rfl, hz⟩ := str_of f1
    obtain ⟨s, rfl, hs, n1, hn1, _, hr⟩ := slice_rows Tryd.underlying22 cellsT (by omega) f2
    obtain ⟨ts, h1, h2⟩ := ts_of_rows hs fun i hi => by
      obtain ⟨cs, y, hl, hrow, hy⟩ := hr i hi
      obtain ⟨t, q, rfl, a1, a2, a3⟩ := ih n1 (by omega) hl hy
      exact ⟨t, q, hrow, a1, a2, a3⟩
    exact ⟨.mk b nm ts, s, rfl, h1, by unfold szT; exact h2, hz⟩
theorem form_of_arg : ∀ {fuel : Nat} {cs : List Value} {x : DataW H × List MemPlace}, cs.length = 4 → DataW.trod enc Tryd.prog w base spare held fuel 25 cs = some x →
    ∃ (f : Fm) (p q : SL), cs = fmV f p q ∧ IsTs (fun k => k < w.heap.size) w p f.args ∧ IsFs (fun k => k < w.heap.size) w q f.subs ∧ szF f ∧ f.op < 256 ∧ f.name.size ≤ maxLen := by
  intro fuel
  induction fuel using Nat.strongRecOn with
  | ind fuel ih =>
    intro cs x hl h
    obtain ⟨xs, n, hfn, _, _, hxl, hf⟩ := DataW.trod_struct Tryd.underlying25 h
    obtain ⟨c0, c1, c2, c3, rfl⟩ := list4 hl
    have hxl : xs.length = 4 := hxl
    have f0 : DataW.trod enc Tryd.prog w base spare held n 5 (([c0, c1, c2, c3].drop 0).take (Tryd.prog.cellsOf 5)) = xs[0]? := hf 0 _ rfl
    have f1 : DataW.trod enc Tryd.prog w base spare held n 9 (([c0, c1, c2, c3].drop 1).take (Tryd.prog.cellsOf 9)) = xs[1]? := hf 1 _ rfl
    have f2 : DataW.trod enc Tryd.prog w base spare held n 22 (([c0, c1, c2, c3].drop 2).take (Tryd.prog.cellsOf 22)) = xs[2]? := hf 2 _ rfl
    have f3 : DataW.trod enc Tryd.prog w base spare held n 23 (([c0, c1, c2, c3].drop 3).take (Tryd.prog.cellsOf 23)) = xs[3]? := hf 3 _ rfl
    rw [cellsU] at f0
    rw [cellsS] at f1
    rw [cellsTs] at f2
    rw [cellsFs] at f3
    simp only [List.drop_zero, List.drop_succ_cons, List.take_succ_cons, List.take_zero] at f0 f1 f2 f3
    rw [List.getElem?_eq_getElem (by omega)] at f0 f1 f2 f3
    obtain ⟨op, rfl, hop⟩ : ∃ k : Nat, c0 = .int .u8 (k : Int) ∧ k < 256 := ⟨_, (u8_of f0).1, Nat.lt_succ_of_le (u8_of f0).2⟩
    obtain ⟨nm, rfl, hz⟩ := str_of f1
    obtain ⟨s, rfl, hs, n1, _, _, hr⟩ := slice_rows Tryd.underlying22 cellsT (by omega) f2
    obtain ⟨s2, rfl, hs2, n2, hn2, _, hr2⟩ := slice_rows Tryd.underlying23 cellsF (by omega) f3
    obtain ⟨ts, h1, h2⟩ := ts_of_rows hs fun i hi => by
      obtain ⟨cs, y, hl, hrow, hy⟩ := hr i hi
      obtain ⟨t, q, rfl, a1, a2, a3⟩ := term_of_arg hl hy
      exact ⟨t, q, hrow, a1, a2, a3⟩
    obtain ⟨fs, h3, h4, h5⟩ := fs_of_rows hs2 fun i hi => by
      obtain ⟨cs, y, hl, hrow, hy⟩ := hr2 i hi
      obtain ⟨t, p, q, rfl, a1, a2, a3, a4, a5⟩ := ih n2 (by omega) hl hy
      exact ⟨t, p, q, hrow, a1, a2, a3, a4, a5⟩
    exact ⟨.mk op nm ts fs, s, s2, rfl, h1, h3, by unfold szF; exact ⟨h2, h4, h5⟩, hop, hz⟩
set_option maxRecDepth 100000 in
/-- A formula that came in. -/
theorem form_in {fuel : Nat} {v : Value} {x : DataW H × List MemPlace} (h : DataW.trod enc Tryd.prog w base spare held fuel 25 v.cells.toList = some x) (hv : Value.okWide Tryd.prog w .any base 25 v) :
    ∃ (f : Fm) (p q : SL), v = .agg #[.int .u8 (f.op : Int), .string f.name, p.v, q.v] ∧ IsTs (fun k => k < w.heap.size) w p f.args ∧ IsFs (fun k => k < w.heap.size) w q f.subs ∧ szF f ∧ f.op < 256 ∧ f.name.size ≤ maxLen := by
  unfold Value.okWide at hv
  rw [Tryd.underlying25] at hv
  obtain ⟨cs, rfl, hz, _⟩ := hv
  rw [cellsF] at hz
  have hc : (Value.agg cs).cells = cs := by simp [Value.cells]
  rw [hc] at h
  obtain ⟨f, p, q, h1, h2⟩ := form_of_arg (by simpa using hz) h
  refine ⟨f, p, q, ?_, h2⟩
  congr 1
  apply Array.ext'
  rw [h1]
  rfl
/-- A list of formulas that came in. -/
theorem forms_in {fuel n c : Nat} {a : Option Addr} {x : DataW H × List MemPlace} (h : DataW.trod enc Tryd.prog w base spare held fuel 23 [.slice a n c] = some x) :
    ∃ fs, IsFs (fun k => k < w.heap.size) w ⟨a, n, c⟩ fs ∧ fs.length ≤ 9223372036854775807 ∧ szFs fs := by
  obtain ⟨s, hse, hs, n1, _, _, hr⟩ := slice_rows Tryd.underlying23 cellsF (by omega) h
  obtain ⟨sa, sn, sc⟩ := s
  simp only [SL.v, Value.slice.injEq] at hse
  obtain ⟨rfl, rfl, rfl⟩ := hse
  exact fs_of_rows hs fun i hi => by
    obtain ⟨cs, y, hl, hrow, hy⟩ := hr i hi
    obtain ⟨t, p, q, rfl, a1, a2, a3, a4, a5⟩ := form_of_arg hl hy
    exact ⟨t, p, q, hrow, a1, a2, a3, a4, a5⟩
end
end Go.Proofs.YtdobflpbkfkmgaaDoor
