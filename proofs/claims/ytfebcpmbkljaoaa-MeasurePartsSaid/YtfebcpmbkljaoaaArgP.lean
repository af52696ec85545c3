/- Arguments that came in: proofs; lists of places. -/
import Derived.Test.YtfebcpmbkljaoaaArg
import Derived.Test.YtfebcpmbkljaoaaMeaK
namespace Go.Proofs.Ytfebcpmbkljaoaa
open Go.RowKit Go.HK Go.ChangeShapes Go.WideShapes Go.ChangeAt
set_option linter.unusedVariables false
set_option linter.unusedSimpArgs false
set_option linter.unusedSectionVars false
/-- Element i of a slice whose elements are m cells holds these. -/
def RowAt (W : World) (s : SL) (m i : Nat) (vs : List Value) : Prop :=
  ∃ g o, s.a = some ⟨g, o, none⟩ ∧ g < W.heap.size ∧ ∀ (j : Nat) v, vs[j]? = some v → W.cell? ⟨g, o + i * m + j, none⟩ = some v
/-- A form's parts can be read, k levels deep. -/
def FormOk : Nat → World → SL → SL → Prop
  | 0, _, _, _ => True
  | k + 1, W, args, sub => (∀ i, i < args.n → ∃ (b : Bool) (nm : ByteArray) (q : SL), RowAt W args 3 i [.bool b, .string nm, q.v]) ∧
    ∀ i, i < sub.n → ∃ (op : Int) (nm : ByteArray) (a s : SL), RowAt W sub 4 i [.int .u8 op, .string nm, a.v, s.v] ∧ a.n ≤ maxLen ∧ s.n ≤ maxLen ∧ FormOk k W a s
def NodeOk (W : World) (o : PO) : Prop := FormOk 8 W o.args o.fsub ∧ o.args.n ≤ maxLen ∧ o.fsub.n ≤ maxLen ∧ o.marks.n ≤ maxLen ∧ ∀ i, i < o.marks.n → ∃ q : SL, q.n ≤ maxLen ∧ RowAt W o.marks 1 i [q.v]
mutual
def okT (W : World) : PT → Prop
  | .node _ o s => NodeOk W o ∧ s.length ≤ maxLen ∧ okF W s
def okF (W : World) : List PT → Prop
  | [] => True
  | t :: ts => okT W t ∧ okF W ts
end
theorem okF_get {W : World} : ∀ {ts : List PT} {i : Nat} {t : PT}, okF W ts → ts[i]? = some t → okT W t
  | [], i, t, _, h => by simp at h
  | q :: ts, 0, t, h, ht => by simp at ht; subst ht; exact h.1
  | q :: ts, i + 1, t, h, ht => okF_get h.2 (by simpa using ht)
theorem okF_of {W : World} : ∀ {ts : List PT}, (∀ (i : Nat) t, ts[i]? = some t → okT W t) → okF W ts
  | [], _ => trivial
  | q :: ts, h => ⟨h 0 q rfl, okF_of fun i t ht => h (i + 1) t (by simpa using ht)⟩
theorem list_cons {α : Type} {n : Nat} {l : List α} (h : l.length = n + 1) : ∃ a t, l = a :: t ∧ t.length = n := by
  cases l with
  | nil => simp at h
  | cons a t => exact ⟨a, t, rfl, by simpa using h⟩
theorem list1 {α : Type} {l : List α} (h : l.length = 1) : ∃ a, l = [a] := by
  obtain ⟨a, t, h1, h2⟩ := list_cons h
  exact ⟨a, by rw [h1, List.length_eq_zero_iff.1 h2]⟩
theorem list3 {α : Type} {l : List α} (h : l.length = 3) : ∃ a b c, l = [a, b, c] := by
  obtain ⟨a, t, h1, h2⟩ := list_cons h
  obtain ⟨b, t2, h3, h4⟩ := list_cons h2
  obtain ⟨c, h5⟩ := list1 h4
  exact ⟨a, b, c, by rw [h1, h3, h5]⟩
theorem list4 {α : Type} {l : List α} (h : l.length = 4) : ∃ a b c d, l = [a, b, c, d] := by
  obtain ⟨a, t, h1, h2⟩ := list_cons h
  obtain ⟨b, c, d, h3⟩ := list3 h2
  exact ⟨a, b, c, d, by rw [h1, h3]⟩
theorem list8 {α : Type} {l : List α} (h : l.length = 8) : ∃ a b c d e f g i, l = [a, b, c, d, e, f, g, i] := by
  obtain ⟨a, t, h1, h2⟩ := list_cons h
  obtain ⟨b, t2, h3, h4⟩ := list_cons h2
  obtain ⟨c, t3, h5, h6⟩ := list_cons h4
  obtain ⟨d, t4, h7, h8⟩ := list_cons h6
  obtain ⟨e, f, g, i, h9⟩ := list4 h8
  exact ⟨a, b, c, d, e, f, g, i, by rw [h1, h3, h5, h7, h9]⟩
section
variable {H : Type} {enc : TypeId × Value → H} {w : World} {base : Nat} {spare : Nat → Bool} {held : Bool}
theorem cells_get {ad : Addr} {m : Nat} {cs : List Value} (h : w.cells? base ad m = some cs) : cs.length = m ∧ ∀ (j : Nat) u, cs[j]? = some u → w.cell? (ad.add j) = some u := by
  unfold World.cells? at h
  split at h
  · refine ⟨by simpa using mapM_some_length h, fun j u hu => ?_⟩
    have hj : j < m := by
      have := mapM_some_length h
      have := (List.getElem?_eq_some_iff.1 hu).1
      simp at *; omega
    have := mapM_some_get h j j (by simp [hj])
    rw [this, hu]
  · cases h
theorem slice_rows {t e : TypeId} {m fuel : Nat} {v : Value} {x : DataW H × List MemPlace} (ht : Try.prog.underlying t = some (.slice e)) (hce : Try.prog.cellsOf e = m) (hm : 0 < m) (h : DataW.trod enc Try.prog w base spare held fuel t [v] = some x) :
    ∃ s : SL, v = s.v ∧ s.n ≤ maxLen ∧ (∃ n, n ≤ fuel ∧ (0 < s.n → fuel = n + 1) ∧ ∀ i, i < s.n → ∃ cs y, cs.length = m ∧ RowAt w s m i cs ∧ DataW.trod enc Try.prog w base spare held n e cs = some y) := by
  rcases DataW.trod_slice ht h with ⟨hcs, _⟩ | ⟨a, len, cap, elems, rest, n, hf, hcs, _, hb, hl, hmx, hlen, hel, _, _⟩
  · simp only [List.cons.injEq, and_true] at hcs
    exact ⟨⟨none, 0, 0⟩, hcs, Nat.zero_le _, fuel, Nat.le_refl _, fun h => absurd h (Nat.lt_irrefl 0), fun i hi => absurd hi (Nat.not_lt_zero i)⟩
  · simp only [List.cons.injEq, and_true] at hcs
    subst hcs hf
    rw [hce] at hel
    have hone : ∀ i, i < len → ∃ cs y, w.cells? base (a.add (i * m)) m = some cs ∧ DataW.trod enc Try.prog w base spare held n e cs = some y := fun i hi => by
      have h1 := hel i hi
      rw [List.getElem?_eq_getElem (by omega)] at h1
      obtain ⟨cs, h2, h3⟩ := Option.bind_eq_some_iff.1 h1
      exact ⟨cs, _, h2, h3⟩
    refine ⟨⟨some a, len, cap⟩, rfl, by simp only; omega, n, Nat.le_succ _, fun _ => rfl, fun i hi => ?_⟩
    simp only at hi
    obtain ⟨cs0, _, h0, _⟩ := hone 0 (by omega)
    obtain ⟨g0, g1⟩ := cells_get h0
    obtain ⟨u0, hu0⟩ : ∃ u, cs0[0]? = some u := ⟨_, List.getElem?_eq_getElem (by omega)⟩
    have hc0 := g1 0 u0 hu0
    simp only [Nat.zero_mul, Addr.add, if_true] at hc0
    have hsp : a.spot = none := by
      unfold World.cell? at hc0
      split at hc0
      · split at hc0
        · cases hc0
        · rename_i hs; simpa using hs
      · cases hc0
    obtain ⟨gb, go, gs⟩ := a
    simp only at hsp
    subst hsp
    have hlt : gb < w.heap.size := World.block_lt_of_cell? w _ hc0
    obtain ⟨cs, y, h1, h2⟩ := hone i hi
    obtain ⟨k0, k1⟩ := cells_get h1
    refine ⟨cs, y, k0, ⟨gb, go, rfl, hlt, fun j u hu => ?_⟩, h2⟩
    have := k1 j u hu
    rw [Go.Deep.add_add] at this
    simp only [Addr.add] at this
    by_cases hz : i * m + j = 0
    · rw [if_pos hz] at this
      have e1 : go + i * m + j = go := by omega
      rw [e1]; exact this
    · rw [if_neg hz] at this
      rw [Nat.add_assoc]; exact this
theorem str_of {fuel : Nat} {v : Value} {x : DataW H × List MemPlace} (h : DataW.trod enc Try.prog w base spare held fuel 9 [v] = some x) : ∃ s, v = .string s := by
  obtain ⟨s, hs, _⟩ := DataW.trod_string Try.underlying9 h
  simp only [List.cons.injEq, and_true] at hs
  exact ⟨s, hs⟩
theorem i64_of {fuel : Nat} {v : Value} {x : DataW H × List MemPlace} (h : DataW.trod enc Try.prog w base spare held fuel 3 [v] = some x) : ∃ z, v = .int .i64 z ∧ -9223372036854775808 ≤ z ∧ z ≤ 9223372036854775807 := by
  obtain ⟨z, hz, _, hw⟩ := DataW.trod_int Try.underlying3 h
  simp only [List.cons.injEq, and_true] at hz
  exact ⟨z, hz, bounds_i64 hw⟩
theorem bool_of {fuel : Nat} {v : Value} {x : DataW H × List MemPlace} (h : DataW.trod enc Try.prog w base spare held fuel 4 [v] = some x) : ∃ b, v = .bool b := by
  obtain ⟨b, hb, _⟩ := DataW.trod_bool Try.underlying4 h
  simp only [List.cons.injEq, and_true] at hb
  exact ⟨b, hb⟩
theorem cells4 : Try.prog.cellsOf 26 = 4 := by kernel_rfl
theorem cells8 : Try.prog.cellsOf 30 = 8 := by kernel_rfl
theorem cells3 : Try.prog.cellsOf 114 = 3 := by kernel_rfl
theorem cells1 : Try.prog.cellsOf 37 = 1 := by kernel_rfl
theorem cells1b : Try.prog.cellsOf 3 = 1 := by kernel_rfl
theorem cells1c : Try.prog.cellsOf 4 = 1 := by kernel_rfl
theorem cells1d : Try.prog.cellsOf 9 = 1 := by kernel_rfl
theorem cells1e : Try.prog.cellsOf 23 = 1 := by kernel_rfl
theorem cells1f : Try.prog.cellsOf 24 = 1 := by kernel_rfl
theorem cells1g : Try.prog.cellsOf 5 = 1 := by kernel_rfl
theorem cells1h : Try.prog.cellsOf 27 = 1 := by kernel_rfl
theorem cells1i : Try.prog.cellsOf 28 = 1 := by kernel_rfl
theorem term_of {fuel : Nat} {cs : List Value} {x : DataW H × List MemPlace} (hl : cs.length = 3) (h : DataW.trod enc Try.prog w base spare held fuel 114 cs = some x) : ∃ (b : Bool) (nm : ByteArray) (q : SL), cs = [.bool b, .string nm, q.v] := by
  obtain ⟨xs, n, _, _, _, hxl, hf⟩ := DataW.trod_struct Try.underlying114 h
  obtain ⟨c0, c1, c2, rfl⟩ := list3 hl
  have hxl : xs.length = 3 := hxl
  have f0 : DataW.trod enc Try.prog w base spare held n 4 (([c0, c1, c2].drop 0).take (Try.prog.cellsOf 4)) = xs[0]? := hf 0 _ rfl
  have f1 : DataW.trod enc Try.prog w base spare held n 9 (([c0, c1, c2].drop 1).take (Try.prog.cellsOf 9)) = xs[1]? := hf 1 _ rfl
  have f2 : DataW.trod enc Try.prog w base spare held n 23 (([c0, c1, c2].drop 2).take (Try.prog.cellsOf 23)) = xs[2]? := hf 2 _ rfl
  rw [cells1c] at f0
  rw [cells1d] at f1
  rw [cells1e] at f2
  simp only [List.drop_zero, List.drop_succ_cons, List.take_succ_cons, List.take_zero] at f0 f1 f2
  rw [List.getElem?_eq_getElem (by omega)] at f0 f1 f2
  obtain ⟨b, rfl⟩ := bool_of f0
  obtain ⟨nm, rfl⟩ := str_of f1
  obtain ⟨s, rfl, _⟩ := slice_rows Try.underlying23 cells3 (by omega) f2
  exact ⟨b, nm, s, rfl⟩
theorem form_of : ∀ (k : Nat) {fuel : Nat} {cs : List Value} {x : DataW H × List MemPlace}, cs.length = 4 → DataW.trod enc Try.prog w base spare held fuel 26 cs = some x →
    ∃ (op : Int) (nm : ByteArray) (a s : SL), cs = [.int .u8 op, .string nm, a.v, s.v] ∧ a.n ≤ maxLen ∧ s.n ≤ maxLen ∧ FormOk k w a s := by
  intro k
  induction k with
  | zero =>
    intro fuel cs x hl h
    obtain ⟨xs, n, _, _, _, hxl, hf⟩ := DataW.trod_struct Try.underlying26 h
    obtain ⟨c0, c1, c2, c3, rfl⟩ := list4 hl
    have hxl : xs.length = 4 := hxl
    have f0 : DataW.trod enc Try.prog w base spare held n 5 (([c0, c1, c2, c3].drop 0).take (Try.prog.cellsOf 5)) = xs[0]? := hf 0 _ rfl
    have f1 : DataW.trod enc Try.prog w base spare held n 9 (([c0, c1, c2, c3].drop 1).take (Try.prog.cellsOf 9)) = xs[1]? := hf 1 _ rfl
    have f2 : DataW.trod enc Try.prog w base spare held n 23 (([c0, c1, c2, c3].drop 2).take (Try.prog.cellsOf 23)) = xs[2]? := hf 2 _ rfl
    have f3 : DataW.trod enc Try.prog w base spare held n 24 (([c0, c1, c2, c3].drop 3).take (Try.prog.cellsOf 24)) = xs[3]? := hf 3 _ rfl
    rw [cells1g] at f0
    rw [cells1d] at f1
    rw [cells1e] at f2
    rw [cells1f] at f3
    simp only [List.drop_zero, List.drop_succ_cons, List.take_succ_cons, List.take_zero] at f0 f1 f2 f3
    rw [List.getElem?_eq_getElem (by omega)] at f0 f1 f2 f3
    have e0 := (u8_of f0).1
    obtain ⟨nm, rfl⟩ := str_of f1
    obtain ⟨s, rfl, hs, _⟩ := slice_rows Try.underlying23 cells3 (by omega) f2
    obtain ⟨s2, rfl, hs2, _⟩ := slice_rows Try.underlying24 cells4 (by omega) f3
    exact ⟨_, nm, s, s2, by rw [e0], hs, hs2, trivial⟩
  | succ k ih =>
    intro fuel cs x hl h
    obtain ⟨xs, n, _, _, _, hxl, hf⟩ := DataW.trod_struct Try.underlying26 h
    obtain ⟨c0, c1, c2, c3, rfl⟩ := list4 hl
    have hxl : xs.length = 4 := hxl
    have f0 : DataW.trod enc Try.prog w base spare held n 5 (([c0, c1, c2, c3].drop 0).take (Try.prog.cellsOf 5)) = xs[0]? := hf 0 _ rfl
    have f1 : DataW.trod enc Try.prog w base spare held n 9 (([c0, c1, c2, c3].drop 1).take (Try.prog.cellsOf 9)) = xs[1]? := hf 1 _ rfl
    have f2 : DataW.trod enc Try.prog w base spare held n 23 (([c0, c1, c2, c3].drop 2).take (Try.prog.cellsOf 23)) = xs[2]? := hf 2 _ rfl
    have f3 : DataW.trod enc Try.prog w base spare held n 24 (([c0, c1, c2, c3].drop 3).take (Try.prog.cellsOf 24)) = xs[3]? := hf 3 _ rfl
    rw [cells1g] at f0
    rw [cells1d] at f1
    rw [cells1e] at f2
    rw [cells1f] at f3
    simp only [List.drop_zero, List.drop_succ_cons, List.take_succ_cons, List.take_zero] at f0 f1 f2 f3
    rw [List.getElem?_eq_getElem (by omega)] at f0 f1 f2 f3
    have e0 := (u8_of f0).1
    obtain ⟨nm, rfl⟩ := str_of f1
    obtain ⟨s, rfl, hs, n1, _, _, hr1⟩ := slice_rows Try.underlying23 cells3 (by omega) f2
    obtain ⟨s2, rfl, hs2, n2, _, _, hr2⟩ := slice_rows Try.underlying24 cells4 (by omega) f3
    refine ⟨_, nm, s, s2, by rw [e0], hs, hs2, fun i hi => ?_, fun i hi => ?_⟩
    · obtain ⟨cs, y, hl, hrow, hy⟩ := hr1 i hi
      obtain ⟨b, nm, q, rfl⟩ := term_of hl hy
      exact ⟨b, nm, q, hrow⟩
    · obtain ⟨cs, y, hl, hrow, hy⟩ := hr2 i hi
      obtain ⟨op, nm, a, s', rfl, h1, h2, h3⟩ := ih hl hy
      exact ⟨op, nm, a, s', hrow, h1, h2, h3⟩
theorem node_of : ∀ {fuel : Nat} {cs : List Value} {x : DataW H × List MemPlace}, cs.length = 8 → DataW.trod enc Try.prog w base spare held fuel 30 cs = some x →
    ∃ (t : PT) (sv : SL), cs = t.vals sv ∧ IsPs w.heap.size w sv t.subs ∧ okT w t := by
  intro fuel
  induction fuel using Nat.strongRecOn with
  | ind fuel ih =>
    intro cs x hl h
    obtain ⟨xs, n, hfn, _, _, hxl, hf⟩ := DataW.trod_struct Try.underlying30 h
    obtain ⟨c0, c1, c2, c3, c4, c5, c6, c7, rfl⟩ := list8 hl
    have hxl : xs.length = 5 := hxl
    have f0 : DataW.trod enc Try.prog w base spare held n 9 (([c0, c1, c2, c3, c4, c5, c6, c7].drop 0).take (Try.prog.cellsOf 9)) = xs[0]? := hf 0 _ rfl
    have f1 : DataW.trod enc Try.prog w base spare held n 26 (([c0, c1, c2, c3, c4, c5, c6, c7].drop 1).take (Try.prog.cellsOf 26)) = xs[1]? := hf 1 _ rfl
    have f2 : DataW.trod enc Try.prog w base spare held n 3 (([c0, c1, c2, c3, c4, c5, c6, c7].drop 5).take (Try.prog.cellsOf 3)) = xs[2]? := hf 2 _ rfl
    have f3 : DataW.trod enc Try.prog w base spare held n 27 (([c0, c1, c2, c3, c4, c5, c6, c7].drop 6).take (Try.prog.cellsOf 27)) = xs[3]? := hf 3 _ rfl
    have f4 : DataW.trod enc Try.prog w base spare held n 28 (([c0, c1, c2, c3, c4, c5, c6, c7].drop 7).take (Try.prog.cellsOf 28)) = xs[4]? := hf 4 _ rfl
    rw [cells1d] at f0
    rw [cells4] at f1
    rw [cells1b] at f2
    rw [cells1h] at f3
    rw [cells1i] at f4
    simp only [List.drop_zero, List.drop_succ_cons, List.take_succ_cons, List.take_zero] at f0 f1 f2 f3 f4
    rw [List.getElem?_eq_getElem (by omega)] at f0 f1 f2 f3 f4
    obtain ⟨r, rfl⟩ := str_of f0
    obtain ⟨op, nm, a, s, hc, ha, hs, hfo⟩ := form_of 8 rfl f1
    simp only [List.cons.injEq, and_true] at hc
    obtain ⟨rfl, rfl, rfl, rfl⟩ := hc
    obtain ⟨z, rfl, _⟩ := i64_of f2
    obtain ⟨sv, rfl, hsv, n1, hn1, hn1', hr1⟩ := slice_rows Try.underlying27 cells8 (by omega) f3
    obtain ⟨mk, rfl, hmk, n2, _, _, hr2⟩ := slice_rows Try.underlying28 cells1 (by omega) f4
    have hel : ∀ i, i < sv.n → ∃ (t : PT) (s' : SL), RowAt w sv 8 i (t.vals s') ∧ IsPs w.heap.size w s' t.subs ∧ okT w t := fun i hi => by
      obtain ⟨cs, y, hl, hrow, hy⟩ := hr1 i hi
      obtain ⟨t, s', rfl, h1, h2⟩ := ih n1 (by omega) hl hy
      exact ⟨t, s', hrow, h1, h2⟩
    have hno : NodeOk w ⟨op, nm, a, s, z, mk⟩ := ⟨hfo, ha, hs, hmk, fun i hi => by
      obtain ⟨cs, y, hl, hrow, hy⟩ := hr2 i hi
      obtain ⟨c, rfl⟩ := list1 hl
      obtain ⟨q, rfl, hq, _⟩ := slice_rows Try.underlying37 cells1b (by omega) hy
      exact ⟨q, hq, hrow⟩⟩
    obtain ⟨ga, gn, gc⟩ := sv
    simp only at hel hsv
    by_cases h0 : gn = 0
    · subst h0
      exact ⟨.node r ⟨op, nm, a, s, z, mk⟩ [], ⟨ga, 0, gc⟩, rfl, .nil _ _, hno, Nat.zero_le _, trivial⟩
    · obtain ⟨f, hfp⟩ : ∃ f : Nat → PT × SL, ∀ i, i < gn → RowAt w ⟨ga, gn, gc⟩ 8 i ((f i).1.vals (f i).2) ∧ IsPs w.heap.size w (f i).2 (f i).1.subs ∧ okT w (f i).1 :=
        ⟨fun i => if h : i < gn then (Classical.choose (hel i h), Classical.choose (Classical.choose_spec (hel i h))) else (.node ⟨#[]⟩ PO.nil [], ⟨none, 0, 0⟩), fun i hi => by
          simp only [dif_pos hi]
          exact Classical.choose_spec (Classical.choose_spec (hel i hi))⟩
      obtain ⟨g, o, hga, hg, _⟩ := (hfp 0 (by omega)).1
      simp only at hga
      subst hga
      refine ⟨.node r ⟨op, nm, a, s, z, mk⟩ ((List.range gn).map fun i => (f i).1), ⟨some ⟨g, o, none⟩, gn, gc⟩, rfl, ?_, hno, by simpa using hsv, okF_of fun i t ht => ?_⟩
      · have := IsPs.row (n0 := w.heap.size) (W := w) g o gc ((List.range gn).map fun i => (f i).1) (fun i => (f i).2) hg (fun i t ht j v hv => by
          rw [List.getElem?_map] at ht
          obtain ⟨k, hk, rfl⟩ := Option.map_eq_some_iff.1 ht
          obtain ⟨hlt, he⟩ := List.getElem?_eq_some_iff.1 hk
          simp only [List.length_range] at hlt
          simp only [List.getElem_range] at he
          subst he
          obtain ⟨g', o', he', _, hc⟩ := (hfp i hlt).1
          simp only [Option.some.injEq, Addr.mk.injEq, and_true] at he'
          obtain ⟨rfl, rfl⟩ := he'
          exact hc j v hv) (fun i t ht => by
          rw [List.getElem?_map] at ht
          obtain ⟨k, hk, rfl⟩ := Option.map_eq_some_iff.1 ht
          obtain ⟨hlt, he⟩ := List.getElem?_eq_some_iff.1 hk
          simp only [List.length_range] at hlt
          simp only [List.getElem_range] at he
          subst he
          exact (hfp i hlt).2.1)
        simpa [PT.subs] using this
      · rw [List.getElem?_map] at ht
        obtain ⟨k, hk, rfl⟩ := Option.map_eq_some_iff.1 ht
        obtain ⟨hlt, he⟩ := List.getElem?_eq_some_iff.1 hk
        simp only [List.length_range] at hlt
        simp only [List.getElem_range] at he
        subst he
        exact (hfp i hlt).2.2
set_option maxRecDepth 100000 in
/-- A proof that came in. -/
theorem proof_of {fuel : Nat} {v : Value} {x : DataW H × List MemPlace} (h : DataW.trod enc Try.prog w base spare held fuel 30 v.cells.toList = some x) (hv : Value.okWide Try.prog w .any base 30 v) :
    ∃ (t : PT) (sv : SL), v = .agg (t.arr sv) ∧ IsPs w.heap.size w sv t.subs ∧ okT w t := by
  unfold Value.okWide at hv
  rw [Try.underlying30] at hv
  obtain ⟨cs, rfl, hz, _⟩ := hv
  rw [cells8] at hz
  have hc : (Value.agg cs).cells = cs := by simp [Value.cells]
  rw [hc] at h
  obtain ⟨t, sv, h1, h2, h3⟩ := node_of (by simpa using hz) h
  refine ⟨t, sv, ?_, h2, h3⟩
  congr 1
  apply Array.ext'
  rw [h1]
  rfl
/-- Numbers that came in. -/
theorem ints_of {fuel n c : Nat} {a : Option Addr} {x : DataW H × List MemPlace} (h : DataW.trod enc Try.prog w base spare held fuel 37 [.slice a n c] = some x) : ∃ is : List Int, IsI w ⟨a, n, c⟩ is ∧ n ≤ maxLen := by
  have hnc : n ≤ c := by
    rcases DataW.trod_slice Try.underlying37 h with ⟨hcs, _⟩ | ⟨a, len, cap, elems, rest, n, hf, hcs, _, hb, hl, _⟩
    · simp only [List.cons.injEq, and_true, Value.slice.injEq] at hcs
      omega
    · simp only [List.cons.injEq, and_true, Value.slice.injEq] at hcs
      omega
  obtain ⟨s, hse, hs, n1, _, _, hr⟩ := slice_rows Try.underlying37 cells1b (by omega) h
  obtain ⟨sa, sn, sc⟩ := s
  simp only [SL.v, Value.slice.injEq] at hse
  obtain ⟨rfl, rfl, rfl⟩ := hse
  simp only at hr hs
  have hel : ∀ i, i < n → ∃ z : Int, RowAt w ⟨a, n, c⟩ 1 i [.int .i64 z] := fun i hi => by
    obtain ⟨cs, y, hl, hrow, hy⟩ := hr i hi
    obtain ⟨c, rfl⟩ := list1 hl
    obtain ⟨z, rfl, _⟩ := i64_of hy
    exact ⟨z, hrow⟩
  refine ⟨(List.range n).map fun i => if h : i < n then Classical.choose (hel i h) else 0, ⟨by simp, hnc, ?_⟩, hs⟩
  by_cases h0 : n = 0
  · subst h0; exact .inl rfl
  · obtain ⟨_, g, o, ha, _, _⟩ := hel 0 (by omega)
    refine .inr ⟨g, o, ha, fun j x hx => ?_⟩
    rw [List.getElem?_map] at hx
    obtain ⟨k, hk, rfl⟩ := Option.map_eq_some_iff.1 hx
    obtain ⟨hlt, he⟩ := List.getElem?_eq_some_iff.1 hk
    simp only [List.length_range] at hlt
    simp only [List.getElem_range] at he
    subst he
    rw [dif_pos hlt]
    obtain ⟨g', o', he', _, hc⟩ := Classical.choose_spec (hel j hlt)
    rw [ha] at he'
    simp only [Option.some.injEq, Addr.mk.injEq, and_true] at he'
    obtain ⟨rfl, rfl⟩ := he'
    have := hc 0 _ rfl
    simpa using this
/-- Lists of numbers that came in. -/
theorem places_of {fuel n c : Nat} {a : Option Addr} {x : DataW H × List MemPlace} (h : DataW.trod enc Try.prog w base spare held fuel 28 [.slice a n c] = some x) : ∃ ws : List (List Int), IsW w ⟨a, n, c⟩ ws ∧ n ≤ maxLen ∧ ∀ u ∈ ws, u.length ≤ maxLen := by
  obtain ⟨s, hse, hs, n1, _, _, hr⟩ := slice_rows Try.underlying28 cells1 (by omega) h
  obtain ⟨sa, sn, sc⟩ := s
  simp only [SL.v, Value.slice.injEq] at hse
  obtain ⟨rfl, rfl, rfl⟩ := hse
  simp only at hr hs
  have hel : ∀ i, i < n → ∃ u : List Int × SL, RowAt w ⟨a, n, c⟩ 1 i [u.2.v] ∧ IsI w u.2 u.1 ∧ u.1.length ≤ maxLen := fun i hi => by
    obtain ⟨cs, y, hl, hrow, hy⟩ := hr i hi
    obtain ⟨c, rfl⟩ := list1 hl
    obtain ⟨q, rfl, hq, _⟩ := slice_rows Try.underlying37 cells1b (by omega) hy
    obtain ⟨is, h1, h2⟩ := ints_of hy
    exact ⟨(is, q), hrow, h1, by have := h1.1; simp only at this ⊢; omega⟩
  have hex : ∃ f : Nat → List Int × SL, ∀ i, i < n → RowAt w ⟨a, n, c⟩ 1 i [(f i).2.v] ∧ IsI w (f i).2 (f i).1 ∧ (f i).1.length ≤ maxLen :=
    ⟨fun i => if h : i < n then Classical.choose (hel i h) else ([], ⟨none, 0, 0⟩), fun i hi => by
      simp only [dif_pos hi]
      exact Classical.choose_spec (hel i hi)⟩
  obtain ⟨f, hf⟩ := hex
  have hget : ∀ (i : Nat) u, ((List.range n).map fun i => (f i).1)[i]? = some u → i < n ∧ u = (f i).1 := fun i u hu => by
    rw [List.getElem?_map] at hu
    obtain ⟨k, hk, rfl⟩ := Option.map_eq_some_iff.1 hu
    obtain ⟨hlt, he⟩ := List.getElem?_eq_some_iff.1 hk
    simp only [List.length_range] at hlt
    simp only [List.getElem_range] at he
    subst he
    exact ⟨hlt, rfl⟩
  refine ⟨(List.range n).map fun i => (f i).1, ⟨by simp, ?_⟩, hs, fun u hu => ?_⟩
  · by_cases h0 : n = 0
    · subst h0; exact .inl rfl
    · obtain ⟨⟨g, o, ha, _, _⟩, _⟩ := hf 0 (by omega)
      refine .inr ⟨g, o, ha, fun i => (f i).2, fun i u hu => ?_⟩
      obtain ⟨hlt, rfl⟩ := hget i u hu
      obtain ⟨⟨g', o', he', _, hc⟩, h2, _⟩ := hf i hlt
      rw [ha] at he'
      simp only [Option.some.injEq, Addr.mk.injEq, and_true] at he'
      obtain ⟨rfl, rfl⟩ := he'
      have := hc 0 _ rfl
      exact ⟨by simpa using this, h2⟩
  · obtain ⟨i, hi⟩ := List.mem_iff_getElem?.1 hu
    obtain ⟨hlt, rfl⟩ := hget i u hi
    exact (hf i hlt).2.2
end
end Go.Proofs.Ytfebcpmbkljaoaa
