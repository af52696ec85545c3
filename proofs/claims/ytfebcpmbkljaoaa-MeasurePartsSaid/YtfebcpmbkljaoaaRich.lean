/- Proofs with their formulas and marks: as data, in memory, as an argument. -/
import Derived.Test.YtfebcpmbkljaoaaArgP
namespace Go.Proofs.Ytfebcpmbkljaoaa
open Go.RowKit Go.HK Go.ChangeShapes Go.WideShapes Go.ChangeAt
set_option linter.unusedVariables false
set_option linter.unusedSimpArgs false
set_option linter.unusedSectionVars false
/-- A term. -/
inductive TT where
  | node (b : Bool) (nm : ByteArray) (args : List TT)
def TT.b : TT → Bool | .node b _ _ => b
def TT.nm : TT → ByteArray | .node _ n _ => n
def TT.args : TT → List TT | .node _ _ a => a
/-- A formula. -/
inductive FT where
  | node (op : Int) (nm : ByteArray) (args : List TT) (subs : List FT)
def FT.op : FT → Int | .node o _ _ _ => o
def FT.nm : FT → ByteArray | .node _ n _ _ => n
def FT.args : FT → List TT | .node _ _ a _ => a
def FT.subs : FT → List FT | .node _ _ _ s => s
/-- A proof. -/
inductive RT where
  | node (r : ByteArray) (op : Int) (nm : ByteArray) (args : List TT) (fs : List FT) (lab : Int) (marks : List (List Int)) (subs : List RT)
def RT.subs : RT → List RT | .node _ _ _ _ _ _ _ s => s
def TT.vals (t : TT) (s : SL) : List Value := [.bool t.b, .string t.nm, s.v]
def FT.vals (f : FT) (a s : SL) : List Value := [.int .u8 f.op, .string f.nm, a.v, s.v]
/-- Terms in memory, in blocks of S. -/
inductive IsTs (S : Nat → Prop) (W : World) : SL → List TT → Prop
  | nil (a : Option Addr) (c : Nat) : IsTs S W ⟨a, 0, c⟩ []
  | row (g o c : Nat) (ts : List TT) (sv : Nat → SL) (hg : S g) (hl : ts.length ≤ maxLen) (hc : ∀ (i : Nat) t, ts[i]? = some t → ∀ (j : Nat) v, (t.vals (sv i))[j]? = some v → W.cell? ⟨g, o + i * 3 + j, none⟩ = some v)
      (hs : ∀ (i : Nat) t, ts[i]? = some t → IsTs S W (sv i) t.args) : IsTs S W ⟨some ⟨g, o, none⟩, ts.length, c⟩ ts
/-- Formulas in memory. -/
inductive IsFs (S : Nat → Prop) (W : World) : SL → List FT → Prop
  | nil (a : Option Addr) (c : Nat) : IsFs S W ⟨a, 0, c⟩ []
  | row (g o c : Nat) (fs : List FT) (av sv : Nat → SL) (hg : S g) (hl : fs.length ≤ maxLen) (hc : ∀ (i : Nat) f, fs[i]? = some f → ∀ (j : Nat) v, (f.vals (av i) (sv i))[j]? = some v → W.cell? ⟨g, o + i * 4 + j, none⟩ = some v)
      (ha : ∀ (i : Nat) f, fs[i]? = some f → IsTs S W (av i) f.args) (hs : ∀ (i : Nat) f, fs[i]? = some f → IsFs S W (sv i) f.subs) : IsFs S W ⟨some ⟨g, o, none⟩, fs.length, c⟩ fs
/-- Numbers in memory. -/
def IsIq (S : Nat → Prop) (W : World) (s : SL) (xs : List Int) : Prop :=
  s.n = xs.length ∧ s.n ≤ maxLen ∧ (xs = [] ∨ ∃ g o, s.a = some ⟨g, o, none⟩ ∧ S g ∧ ∀ (j : Nat) x, xs[j]? = some x → W.cell? ⟨g, o + j, none⟩ = some (.int .i64 x))
/-- Marks in memory. -/
def IsMq (S : Nat → Prop) (W : World) (s : SL) (ms : List (List Int)) : Prop :=
  s.n = ms.length ∧ s.n ≤ maxLen ∧ (ms = [] ∨ ∃ g o, s.a = some ⟨g, o, none⟩ ∧ S g ∧ ∃ sl : Nat → SL, ∀ (i : Nat) u, ms[i]? = some u → W.cell? ⟨g, o + i, none⟩ = some (sl i).v ∧ IsIq S W (sl i) u)
mutual
/-- What a proof's other fields hold. -/
def RichT (S : Nat → Prop) (W : World) : PT → RT → Prop
  | .node r o s, .node r' op nm args fs lab marks subs => r = r' ∧ o.op = op ∧ o.name = nm ∧ o.label = lab ∧ IsTs S W o.args args ∧ IsFs S W o.fsub fs ∧ IsMq S W o.marks marks ∧ RichF S W s subs
def RichF (S : Nat → Prop) (W : World) : List PT → List RT → Prop
  | [], [] => True
  | t :: ts, r :: rs => RichT S W t r ∧ RichF S W ts rs
  | [], _ :: _ => False
  | _ :: _, [] => False
end
theorem IsTs.turn {S T : Nat → Prop} {W W' : World} {s : SL} {ts : List TT} (h : IsTs S W s ts) (hb : ∀ k, S k → T k ∧ W'.heap[k]? = W.heap[k]?) : IsTs T W' s ts := by
  induction h with
  | nil a c => exact .nil a c
  | row g o c ts sv hg hl hc hs ih => exact .row g o c ts sv (hb g hg).1 hl (fun i t ht j v hv => (World.cell?_of_block (hb g hg).2).trans (hc i t ht j v hv)) ih
theorem IsFs.turn {S T : Nat → Prop} {W W' : World} {s : SL} {fs : List FT} (h : IsFs S W s fs) (hb : ∀ k, S k → T k ∧ W'.heap[k]? = W.heap[k]?) : IsFs T W' s fs := by
  induction h with
  | nil a c => exact .nil a c
  | row g o c fs av sv hg hl hc ha hs ih => exact .row g o c fs av sv (hb g hg).1 hl (fun i t ht j v hv => (World.cell?_of_block (hb g hg).2).trans (hc i t ht j v hv)) (fun i t ht => (ha i t ht).turn hb) ih
theorem IsIq.turn {S T : Nat → Prop} {W W' : World} {s : SL} {xs : List Int} (h : IsIq S W s xs) (hb : ∀ k, S k → T k ∧ W'.heap[k]? = W.heap[k]?) : IsIq T W' s xs :=
  ⟨h.1, h.2.1, h.2.2.imp id fun ⟨g, o, ha, hg, hc⟩ => ⟨g, o, ha, (hb g hg).1, fun j x hx => (World.cell?_of_block (hb g hg).2).trans (hc j x hx)⟩⟩
theorem IsMq.turn {S T : Nat → Prop} {W W' : World} {s : SL} {ms : List (List Int)} (h : IsMq S W s ms) (hb : ∀ k, S k → T k ∧ W'.heap[k]? = W.heap[k]?) : IsMq T W' s ms :=
  ⟨h.1, h.2.1, h.2.2.imp id fun ⟨g, o, ha, hg, sl, hc⟩ => ⟨g, o, ha, (hb g hg).1, sl, fun i u hu => ⟨(World.cell?_of_block (hb g hg).2).trans (hc i u hu).1, (hc i u hu).2.turn hb⟩⟩⟩
mutual
theorem RichT.turn {S T : Nat → Prop} {W W' : World} (hb : ∀ k, S k → T k ∧ W'.heap[k]? = W.heap[k]?) : ∀ {t : PT} {r : RT}, RichT S W t r → RichT T W' t r
  | .node _ _ _, .node _ _ _ _ _ _ _ _, ⟨h1, h2, h3, h4, h5, h6, h7, h8⟩ => ⟨h1, h2, h3, h4, h5.turn hb, h6.turn hb, h7.turn hb, RichF.turn hb h8⟩
theorem RichF.turn {S T : Nat → Prop} {W W' : World} (hb : ∀ k, S k → T k ∧ W'.heap[k]? = W.heap[k]?) : ∀ {ts : List PT} {rs : List RT}, RichF S W ts rs → RichF T W' ts rs
  | [], [], _ => trivial
  | _ :: _, _ :: _, h => ⟨RichT.turn hb h.1, RichF.turn hb h.2⟩
  | [], _ :: _, h => h.elim
  | _ :: _, [], h => h.elim
end
theorem RichF.length {S : Nat → Prop} {W : World} : ∀ {ts : List PT} {rs : List RT}, RichF S W ts rs → ts.length = rs.length
  | [], [], _ => rfl
  | _ :: _, _ :: _, h => by simp [RichF.length h.2]
  | [], _ :: _, h => h.elim
  | _ :: _, [], h => h.elim
theorem RichF.get {S : Nat → Prop} {W : World} : ∀ {ts : List PT} {rs : List RT} {i : Nat} {t : PT} {r : RT}, RichF S W ts rs → ts[i]? = some t → rs[i]? = some r → RichT S W t r
  | [], _, _, _, _, _, h, _ => by simp at h
  | _ :: _, [], _, _, _, h, _, _ => h.elim
  | t :: ts, r :: rs, 0, _, _, h, h1, h2 => by simp at h1 h2; subst h1 h2; exact h.1
  | t :: ts, r :: rs, i + 1, _, _, h, h1, h2 => RichF.get h.2 (by simpa using h1) (by simpa using h2)
theorem RichF.of {S : Nat → Prop} {W : World} : ∀ {ts : List PT} {rs : List RT}, ts.length = rs.length → (∀ (i : Nat) t r, ts[i]? = some t → rs[i]? = some r → RichT S W t r) → RichF S W ts rs
  | [], [], _, _ => trivial
  | t :: ts, r :: rs, h, hh => ⟨hh 0 t r rfl rfl, RichF.of (by simpa using h) fun i t r h1 h2 => hh (i + 1) t r (by simpa using h1) (by simpa using h2)⟩
  | [], _ :: _, h, _ => by simp at h
  | _ :: _, [], h, _ => by simp at h
theorem fun_lt {α : Type} [Inhabited α] {n : Nat} {p : Nat → α → Prop} (h : ∀ i, i < n → ∃ x, p i x) : ∃ f : Nat → α, ∀ i, i < n → p i (f i) := Go.Deep.choose_lt h
theorem range_get {α : Type} {n i : Nat} {f : Nat → α} {x : α} (h : ((List.range n).map f)[i]? = some x) : i < n ∧ x = f i := by
  rw [List.getElem?_map] at h
  obtain ⟨k, hk, rfl⟩ := Option.map_eq_some_iff.1 h
  obtain ⟨hlt, he⟩ := List.getElem?_eq_some_iff.1 hk
  simp only [List.length_range] at hlt
  simp only [List.getElem_range] at he
  subst he
  exact ⟨hlt, rfl⟩
section
variable {H : Type} {enc : TypeId × Value → H} {w : World} {base : Nat} {spare : Nat → Bool} {held : Bool}
theorem term_rich : ∀ {fuel : Nat} {cs : List Value} {x : DataW H × List MemPlace}, cs.length = 3 → DataW.trod enc Try.prog w base spare held fuel 114 cs = some x → ∃ (t : TT) (s : SL), cs = t.vals s ∧ s.n ≤ maxLen ∧ IsTs (fun k => k < w.heap.size) w s t.args := by
  intro fuel
  induction fuel using Nat.strongRecOn with
  | ind fuel ih =>
    intro cs x hl h
    obtain ⟨xs, n, hfn, _, _, hxl, hf⟩ := DataW.trod_struct Try.underlying114 h
    obtain ⟨c0, c1, c2, rfl⟩ := list3 hl
    have hxl : xs.length = 3 := hxl
    have f0 : DataW.trod enc Try.prog w base spare held n 4 (([c0, c1, c2].drop 0).take (Try.prog.cellsOf 4)) = xs[0]? := hf 0 _ rfl
    have f1 : DataW.trod enc Try.prog w base spare held n 9 (([c0, c1, c2].drop 1).take (Try.prog.cellsOf 9)) = xs[1]? := hf 1 _ rfl
    have f2 : DataW.trod enc Try.prog w base spare held n 23 (([c0, c1, c2].drop 2).take (Try.prog.cellsOf 23)) = xs[2]? := hf 2 _ rfl
    rw [cells1c] at f0
    rw [cells1d] at f1
    rw [cells1e] at f2
    simp only [List.drop_zero, List.drop_succ_cons, List.take_succ_cons, List.take_zero] at f0 f1 f2
    rw [List.getElem?_eq_getElem (by omega)] at f0 f1 f2
    obtain ⟨b, rfl⟩ := bool_of f0
    obtain ⟨nm, rfl⟩ := str_of f1
    obtain ⟨s, rfl, hs, n1, hn1, hn1', hr⟩ := slice_rows Try.underlying23 cells3 (by omega) f2
    have hel : ∀ i, i < s.n → ∃ p : TT × SL, RowAt w s 3 i (p.1.vals p.2) ∧ IsTs (fun k => k < w.heap.size) w p.2 p.1.args := fun i hi => by
      obtain ⟨cs, y, hl, hrow, hy⟩ := hr i hi
      obtain ⟨t, s', rfl, _, h2⟩ := ih n1 (by omega) hl hy
      exact ⟨(t, s'), hrow, h2⟩
    obtain ⟨ga, gn, gc⟩ := s
    simp only at hel hs
    by_cases h0 : gn = 0
    · subst h0
      exact ⟨.node b nm [], ⟨ga, 0, gc⟩, rfl, Nat.zero_le _, .nil _ _⟩
    · obtain ⟨f, hfp⟩ := @fun_lt _ ⟨((.node false ⟨#[]⟩ [], ⟨none, 0, 0⟩) : TT × SL)⟩ _ _ hel
      obtain ⟨g, o, hga, hg, _⟩ := (hfp 0 (by omega)).1
      simp only at hga
      subst hga
      refine ⟨.node b nm ((List.range gn).map fun i => (f i).1), ⟨some ⟨g, o, none⟩, gn, gc⟩, rfl, hs, ?_⟩
      have := IsTs.row (S := fun k => k < w.heap.size) (W := w) g o gc ((List.range gn).map fun i => (f i).1) (fun i => (f i).2) hg (by simpa using hs) (fun i t ht j v hv => by
        obtain ⟨hlt, rfl⟩ := range_get ht
        obtain ⟨g', o', he', _, hc⟩ := (hfp i hlt).1
        simp only [Option.some.injEq, Addr.mk.injEq, and_true] at he'
        obtain ⟨rfl, rfl⟩ := he'
        exact hc j v hv) (fun i t ht => by
        obtain ⟨hlt, rfl⟩ := range_get ht
        exact (hfp i hlt).2)
      simpa [TT.args] using this
theorem terms_rich {fuel : Nat} {v : Value} {x : DataW H × List MemPlace} (h : DataW.trod enc Try.prog w base spare held fuel 23 [v] = some x) : ∃ (s : SL) (ts : List TT), v = s.v ∧ s.n ≤ maxLen ∧ IsTs (fun k => k < w.heap.size) w s ts := by
  obtain ⟨s, rfl, hs, n1, hn1, hn1', hr⟩ := slice_rows Try.underlying23 cells3 (by omega) h
  have hel : ∀ i, i < s.n → ∃ p : TT × SL, RowAt w s 3 i (p.1.vals p.2) ∧ IsTs (fun k => k < w.heap.size) w p.2 p.1.args := fun i hi => by
    obtain ⟨cs, y, hl, hrow, hy⟩ := hr i hi
    obtain ⟨t, s', rfl, _, h2⟩ := term_rich hl hy
    exact ⟨(t, s'), hrow, h2⟩
  obtain ⟨ga, gn, gc⟩ := s
  simp only at hel hs
  by_cases h0 : gn = 0
  · subst h0
    exact ⟨⟨ga, 0, gc⟩, [], rfl, hs, .nil _ _⟩
  · obtain ⟨f, hfp⟩ := @fun_lt _ ⟨((.node false ⟨#[]⟩ [], ⟨none, 0, 0⟩) : TT × SL)⟩ _ _ hel
    obtain ⟨g, o, hga, hg, _⟩ := (hfp 0 (by omega)).1
    simp only at hga
    subst hga
    refine ⟨⟨some ⟨g, o, none⟩, gn, gc⟩, (List.range gn).map fun i => (f i).1, rfl, hs, ?_⟩
    have := IsTs.row (S := fun k => k < w.heap.size) (W := w) g o gc ((List.range gn).map fun i => (f i).1) (fun i => (f i).2) hg (by simpa using hs) (fun i t ht j v hv => by
      obtain ⟨hlt, rfl⟩ := range_get ht
      obtain ⟨g', o', he', _, hc⟩ := (hfp i hlt).1
      simp only [Option.some.injEq, Addr.mk.injEq, and_true] at he'
      obtain ⟨rfl, rfl⟩ := he'
      exact hc j v hv) (fun i t ht => by
      obtain ⟨hlt, rfl⟩ := range_get ht
      exact (hfp i hlt).2)
    simpa using this
theorem form_rich : ∀ {fuel : Nat} {cs : List Value} {x : DataW H × List MemPlace}, cs.length = 4 → DataW.trod enc Try.prog w base spare held fuel 26 cs = some x →
    ∃ (f : FT) (a s : SL), cs = f.vals a s ∧ a.n ≤ maxLen ∧ s.n ≤ maxLen ∧ IsTs (fun k => k < w.heap.size) w a f.args ∧ IsFs (fun k => k < w.heap.size) w s f.subs := by
  intro fuel
  induction fuel using Nat.strongRecOn with
  | ind fuel ih =>
    intro cs x hl h
    obtain ⟨xs, n, hfn, _, _, hxl, hf⟩ := DataW.trod_struct Try.underlying26 h
    obtain ⟨c0, c1, c2, c3, rfl⟩ := list4 hl
    have hxl : xs.length = 4 := hxl
    have f0 : DataW.trod enc Try.prog w base spare held n 5 (([c0, c1, c2, c3].drop 0).take (Try.prog.cellsOf 5)) = xs[0]? := hf 0 _ rfl
    have f1 : DataW.trod enc Try.prog w base spare held n 9 (([c0, c1, c2, c3].drop 1).take (Try.prog.cellsOf 9)) = xs[1]? := hf 1 _ rfl
    have f2 : DataW.trod enc Try.prog w base spare held n 23 (([c0, c1, c2, c3].drop 2).take (Try.prog.cellsOf 23)) = xs[2]? := hf 2 _ rfl
    have f3 : DataW.trod enc Try.prog w base spare held n 24 (([c0, c1, c2, c3].drop 3).take (Try.prog.cellsOf 24)) = xs[3]? := hf 3 _ rfl
    rw [cells1g] at f0
    rw [cells1d] at f1
    rw [cells1e] at f2
    rw [cells1f] at f3
    simp only [List.drop_zero, List.drop_succ_cons, List.take_succ_cons, List.take_zero] at f0 f1 f2 f3
    rw [List.getElem?_eq_getElem (by omega)] at f0 f1 f2 f3
    have e0 := (u8_of f0).1
    obtain ⟨nm, rfl⟩ := str_of f1
    obtain ⟨a, tsa, rfl, ha, hta⟩ := terms_rich f2
    obtain ⟨s, rfl, hs, n1, hn1, hn1', hr⟩ := slice_rows Try.underlying24 cells4 (by omega) f3
    have hel : ∀ i, i < s.n → ∃ p : FT × SL × SL, RowAt w s 4 i (p.1.vals p.2.1 p.2.2) ∧ IsTs (fun k => k < w.heap.size) w p.2.1 p.1.args ∧ IsFs (fun k => k < w.heap.size) w p.2.2 p.1.subs := fun i hi => by
      obtain ⟨cs, y, hl, hrow, hy⟩ := hr i hi
      obtain ⟨f, a', s', rfl, _, _, h2, h3⟩ := ih n1 (by omega) hl hy
      exact ⟨(f, a', s'), hrow, h2, h3⟩
    obtain ⟨ga, gn, gc⟩ := s
    simp only at hel hs
    by_cases h0 : gn = 0
    · subst h0
      exact ⟨.node (u8Of c0) nm tsa [], a, ⟨ga, 0, gc⟩, by rw [e0]; rfl, ha, Nat.zero_le _, hta, .nil _ _⟩
    · obtain ⟨f, hfp⟩ := @fun_lt _ ⟨((.node 0 ⟨#[]⟩ [] [], ⟨none, 0, 0⟩, ⟨none, 0, 0⟩) : FT × SL × SL)⟩ _ _ hel
      obtain ⟨g, o, hga, hg, _⟩ := (hfp 0 (by omega)).1
      simp only at hga
      subst hga
      refine ⟨.node (u8Of c0) nm tsa ((List.range gn).map fun i => (f i).1), a, ⟨some ⟨g, o, none⟩, gn, gc⟩, by rw [e0]; rfl, ha, hs, hta, ?_⟩
      have := IsFs.row (S := fun k => k < w.heap.size) (W := w) g o gc ((List.range gn).map fun i => (f i).1) (fun i => (f i).2.1) (fun i => (f i).2.2) hg (by simpa using hs) (fun i t ht j v hv => by
        obtain ⟨hlt, rfl⟩ := range_get ht
        obtain ⟨g', o', he', _, hc⟩ := (hfp i hlt).1
        simp only [Option.some.injEq, Addr.mk.injEq, and_true] at he'
        obtain ⟨rfl, rfl⟩ := he'
        exact hc j v hv) (fun i t ht => by
        obtain ⟨hlt, rfl⟩ := range_get ht
        exact (hfp i hlt).2.1) (fun i t ht => by
        obtain ⟨hlt, rfl⟩ := range_get ht
        exact (hfp i hlt).2.2)
      simpa [FT.subs] using this
theorem isIq_of {W : World} {s : SL} {xs : List Int} (h : IsI W s xs) (hm : s.n ≤ maxLen) : IsIq (fun k => k < W.heap.size) W s xs := by
  obtain ⟨h1, h2, h3⟩ := h
  refine ⟨h1, hm, ?_⟩
  cases xs with
  | nil => exact .inl rfl
  | cons x xs =>
    obtain ⟨g, o, ha, hc⟩ := h3.resolve_left (by simp)
    exact .inr ⟨g, o, ha, World.block_lt_of_cell? W _ (hc 0 x rfl), hc⟩
theorem isMq_of {W : World} {s : SL} {ws : List (List Int)} (h : IsW W s ws) (hm : s.n ≤ maxLen) (hu : ∀ u ∈ ws, u.length ≤ maxLen) : IsMq (fun k => k < W.heap.size) W s ws := by
  obtain ⟨h1, h3⟩ := h
  refine ⟨h1, hm, ?_⟩
  cases ws with
  | nil => exact .inl rfl
  | cons u ws =>
    obtain ⟨g, o, ha, sl, hc⟩ := h3.resolve_left (by simp)
    refine .inr ⟨g, o, ha, World.block_lt_of_cell? W _ (hc 0 u rfl).1, sl, fun i u hi => ⟨(hc i u hi).1, isIq_of (hc i u hi).2 ?_⟩⟩
    have := hu u (List.mem_of_getElem? hi)
    have h4 := (hc i u hi).2.1
    omega
theorem node_rich : ∀ {fuel : Nat} {cs : List Value} {x : DataW H × List MemPlace}, cs.length = 8 → DataW.trod enc Try.prog w base spare held fuel 30 cs = some x →
    ∃ (t : PT) (sv : SL) (r : RT), cs = t.vals sv ∧ IsPs w.heap.size w sv t.subs ∧ okT w t ∧ RichT (fun k => k < w.heap.size) w t r := by
  intro fuel
  induction fuel using Nat.strongRecOn with
  | ind fuel ih =>
    intro cs x hl h
    obtain ⟨xs, n, hfn, _, _, hxl, hf⟩ := DataW.trod_struct Try.underlying30 h
    obtain ⟨c0, c1, c2, c3, c4, c5, c6, c7, rfl⟩ := list8 hl
    have hxl : xs.length = 5 := hxl
    have f0 : DataW.trod enc Try.prog w base spare held n 9 (([c0, c1, c2, c3, c4, c5, c6, c7].drop 0).take (Try.prog.cellsOf 9)) = xs[0]? := hf 0 _ rfl
    have f1 : DataW.trod enc Try.prog w base spare held n 26 (([c0, c1, c2, c3, c4, c5, c6, c7].drop 1).take (Try.prog.cellsOf 26)) = xs[1]? := hf 1 _ rfl
    have f2 : DataW.trod enc Try.prog w base spare held n 3 (([c0, c1, c2, c3, c4, c5, c6, c7].drop 5).take (Try.prog.cellsOf 3)) = xs[2]? := hf 2 _ rfl
    have f3 : DataW.trod enc Try.prog w base spare held n 27 (([c0, c1, c2, c3, c4, c5, c6, c7].drop 6).take (Try.prog.cellsOf 27)) = xs[3]? := hf 3 _ rfl
    have f4 : DataW.trod enc Try.prog w base spare held n 28 (([c0, c1, c2, c3, c4, c5, c6, c7].drop 7).take (Try.prog.cellsOf 28)) = xs[4]? := hf 4 _ rfl
    rw [cells1d] at f0
    rw [cells4] at f1
    rw [cells1b] at f2
    rw [cells1h] at f3
    rw [cells1i] at f4
    simp only [List.drop_zero, List.drop_succ_cons, List.take_succ_cons, List.take_zero] at f0 f1 f2 f3 f4
    rw [List.getElem?_eq_getElem (by omega)] at f0 f1 f2 f3 f4
    obtain ⟨r, rfl⟩ := str_of f0
    obtain ⟨op, nm, a, s, hc, ha, hs, hfo⟩ := form_of 8 rfl f1
    obtain ⟨fd, a', s', hc', _, _, hta, hfs⟩ := form_rich rfl f1
    simp only [List.cons.injEq, and_true] at hc
    obtain ⟨rfl, rfl, rfl, rfl⟩ := hc
    simp only [FT.vals, List.cons.injEq, and_true, Value.int.injEq, true_and, Value.string.injEq, SL.v, Value.slice.injEq] at hc'
    obtain ⟨hop, hnm, ⟨ea1, ea2, ea3⟩, es1, es2, es3⟩ := hc'
    have eaa : a' = a := by obtain ⟨_, _, _⟩ := a; obtain ⟨_, _, _⟩ := a'; simp_all
    have ess : s' = s := by obtain ⟨_, _, _⟩ := s; obtain ⟨_, _, _⟩ := s'; simp_all
    subst eaa ess
    obtain ⟨z, rfl, _⟩ := i64_of f2
    obtain ⟨sv, rfl, hsv, n1, hn1, hn1', hr1⟩ := slice_rows Try.underlying27 cells8 (by omega) f3
    obtain ⟨mk, hmke, hmk, n2, _, _, hr2⟩ := slice_rows Try.underlying28 cells1 (by omega) f4
    obtain ⟨ma, mn, mc⟩ := mk
    simp only [SL.v] at hmke
    subst hmke
    obtain ⟨ms, hms, hms2, hms3⟩ := places_of f4
    have hmq := isMq_of hms hms2 hms3
    have hel : ∀ i, i < sv.n → ∃ p : PT × SL × RT, RowAt w sv 8 i (p.1.vals p.2.1) ∧ IsPs w.heap.size w p.2.1 p.1.subs ∧ okT w p.1 ∧ RichT (fun k => k < w.heap.size) w p.1 p.2.2 := fun i hi => by
      obtain ⟨cs, y, hl, hrow, hy⟩ := hr1 i hi
      obtain ⟨t, s', r', rfl, h1, h2, h3⟩ := ih n1 (by omega) hl hy
      exact ⟨(t, s', r'), hrow, h1, h2, h3⟩
    have hno : NodeOk w ⟨op, nm, a', s', z, ⟨ma, mn, mc⟩⟩ := ⟨hfo, ha, hs, hmk, fun i hi => by
      obtain ⟨cs, y, hl, hrow, hy⟩ := hr2 i hi
      obtain ⟨c, rfl⟩ := list1 hl
      obtain ⟨q, rfl, hq, _⟩ := slice_rows Try.underlying37 cells1b (by omega) hy
      exact ⟨q, hq, hrow⟩⟩
    obtain ⟨ga, gn, gc⟩ := sv
    simp only at hel hsv
    by_cases h0 : gn = 0
    · subst h0
      exact ⟨.node r ⟨op, nm, a', s', z, ⟨ma, mn, mc⟩⟩ [], ⟨ga, 0, gc⟩, .node r op nm fd.args fd.subs z ms [], rfl, .nil _ _, ⟨hno, Nat.zero_le _, trivial⟩, rfl, rfl, rfl, rfl, hta, hfs, hmq, trivial⟩
    · obtain ⟨f, hfp⟩ := @fun_lt _ ⟨((.node ⟨#[]⟩ PO.nil [], ⟨none, 0, 0⟩, .node ⟨#[]⟩ 0 ⟨#[]⟩ [] [] 0 [] []) : PT × SL × RT)⟩ _ _ hel
      obtain ⟨g, o, hga, hg, _⟩ := (hfp 0 (by omega)).1
      simp only at hga
      subst hga
      refine ⟨.node r ⟨op, nm, a', s', z, ⟨ma, mn, mc⟩⟩ ((List.range gn).map fun i => (f i).1), ⟨some ⟨g, o, none⟩, gn, gc⟩, .node r op nm fd.args fd.subs z ms ((List.range gn).map fun i => (f i).2.2), rfl, ?_, ⟨hno, by simpa using hsv, okF_of fun i t ht => ?_⟩, rfl, rfl, rfl, rfl, hta, hfs, hmq, RichF.of (by simp) fun i t r h1 h2 => ?_⟩
      · have := IsPs.row (n0 := w.heap.size) (W := w) g o gc ((List.range gn).map fun i => (f i).1) (fun i => (f i).2.1) hg (fun i t ht j v hv => by
          obtain ⟨hlt, rfl⟩ := range_get ht
          obtain ⟨g', o', he', _, hc⟩ := (hfp i hlt).1
          simp only [Option.some.injEq, Addr.mk.injEq, and_true] at he'
          obtain ⟨rfl, rfl⟩ := he'
          exact hc j v hv) (fun i t ht => by
          obtain ⟨hlt, rfl⟩ := range_get ht
          exact (hfp i hlt).2.1)
        simpa [PT.subs] using this
      · obtain ⟨hlt, rfl⟩ := range_get ht
        exact (hfp i hlt).2.2.1
      · obtain ⟨hlt, rfl⟩ := range_get h1
        obtain ⟨_, rfl⟩ := range_get h2
        exact (hfp i hlt).2.2.2
set_option maxRecDepth 100000 in
/-- A proof that came in. -/
theorem rich_of {fuel : Nat} {v : Value} {x : DataW H × List MemPlace} (h : DataW.trod enc Try.prog w base spare held fuel 30 v.cells.toList = some x) (hv : Value.okWide Try.prog w .any base 30 v) :
    ∃ (t : PT) (sv : SL) (r : RT), v = .agg (t.arr sv) ∧ IsPs w.heap.size w sv t.subs ∧ okT w t ∧ RichT (fun k => k < w.heap.size) w t r := by
  unfold Value.okWide at hv
  rw [Try.underlying30] at hv
  obtain ⟨cs, rfl, hz, _⟩ := hv
  rw [cells8] at hz
  have hc : (Value.agg cs).cells = cs := by simp [Value.cells]
  rw [hc] at h
  obtain ⟨t, sv, r, h1, h2, h3, h4⟩ := node_rich (by simpa using hz) h
  refine ⟨t, sv, r, ?_, h2, h3, h4⟩
  congr 1
  apply Array.ext'
  rw [h1]
  rfl
end
end Go.Proofs.Ytfebcpmbkljaoaa
