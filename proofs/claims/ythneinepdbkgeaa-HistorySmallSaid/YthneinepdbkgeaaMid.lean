/- Points between two statements of 'add', and what carries the tree from one to the next. No program in sight. -/
import Derived.Test.YthneinepdbkgeaaTree
namespace Go.HK
open Go Go.RowKit
set_option linter.unusedVariables false
set_option linter.unusedSimpArgs false
set_option linter.unusedSectionVars false

theorem cell_putObj {W : World} {l : Nat} {o : Obj} {a : Addr} (h : a.block ≠ l) : (W.putObj l o).cell? a = W.cell? a := by
  simp only [World.cell?]
  rw [World.putObj_heap_other h]
theorem frozen_putObj {W : World} {l : Nat} {o : Obj} {a : Addr} (h : a.block ≠ l) : (W.putObj l o).frozen? a = W.frozen? a := by
  simp only [World.frozen?]
  rw [World.putObj_heap_other h]
theorem blk_putObj {W : World} {l b : Nat} {o o' : Obj} (h : W.heap[b]? = some o) (hn : b ≠ l) : (W.putObj l o').heap[b]? = some o := by
  rw [World.putObj_heap_other hn]; exact h
theorem blk_putObj_same {W : World} {l : Nat} {o o' : Obj} (h : W.heap[l]? = some o) : (W.putObj l o').heap[l]? = some o' := by
  simp [World.putObj, (Array.getElem?_eq_some_iff.1 h).1]
theorem owns_putObj {w : World} {base : Nat} {e : TypeId} {size : Nat} {v : Value} {n : Nat} {xs : List Value} (h : w.ownsRow base e size v n xs) {l : Nat} (hl : v.ownBlock ≠ some l) (o : Obj) : (w.putObj l o).ownsRow base e size v n xs := by
  refine ⟨h.1, ?_⟩
  rcases h.2 with h0 | ⟨g, cap, cur, rfl, hg, hh, r⟩
  · exact .inl h0
  · exact .inr ⟨g, cap, cur, rfl, hg, blk_putObj hh (fun e => hl (by simp [Value.ownBlock, e])), r⟩

/-- The box of the new entry, the tree as far as it has come. -/
def AddMid (w : World) (F0 : List Nat) (box : Array Value) (t : Nat) (nodes : List HN) (kf : Nat → List Nat) (xf : ByteArray → List Nat) (now : Nat) (p : Value) (wx : World) : Prop :=
  ∃ B F, p = .pointer (some ⟨B, 0, none⟩) ∧ wx.heap[B]? = some (.cells box 45 (0, 0)) ∧ TreeG wx t F nodes kf xf now ∧ B ∉ F ∧ w.heap.size ≤ B ∧ Frm (· ∈ F0) w wx ∧ ∀ b ∈ F, b ∈ F0 ∨ w.heap.size ≤ b

section
variable {w w1 : World} {t : Nat} {nv : Value} {m : Nat} {kv : List Value} {es : Array MapEntry} {clock : Nat} {gs : List (ByteArray × Value)} {nodes : List HN} {kf : Nat → List Nat} {xf : ByteArray → List Nat} {now : Nat}

theorem foot_t : t ∈ foot t m nv kv gs := by simp [foot]
theorem foot_m : m ∈ foot t m nv kv gs := by simp [foot]
theorem foot_v {v : Value} (hv : v ∈ tvals nv kv gs) {g : Nat} (hg : v.ownBlock = some g) : g ∈ foot t m nv kv gs := by
  simp only [foot, List.mem_cons, List.mem_filterMap]; exact .inr (.inr ⟨v, hv, hg⟩)
theorem tv_nv : nv ∈ tvals nv kv gs := by simp [tvals]

/-- Behind 'l.nodes = append(l.nodes, node{..})'. -/
theorem mid_node (hC : TreeC w t nv m kv es clock gs nodes kf xf now) (hk : kf nodes.length = []) {box : Array Value} {x : HN} {cap gg : Nat} {newc : Array Value}
    (hgrow : ((w.alloc (.cells box 45)).alloc (.cells newc 85)).drew.grownBy w1 nv.ownBlock)
    (hown1 : w1.ownsRow 0 85 6 (.slice (some ⟨gg, 0, none⟩) (nodes.length + 1) cap) (nodes.length + 1) (flat nodes kv ++ nodeCells x (.slice none 0 0)))
    (hat : nv.ownBlock = some gg ∨ gg = ((w.alloc (.cells box 45)).alloc (.cells newc 85)).drew.heap.size) :
    AddMid w (foot t m nv kv gs) box t (nodes ++ [x]) kf xf now (.pointer (some ⟨w.heap.size, 0, none⟩)) (w1.setCell ⟨t, 0, none⟩ (.slice (some ⟨gg, 0, none⟩) (nodes.length + 1) cap)) := by
  have hne := hC.ne
  have hT0 : ((w.alloc (.cells box 45)).alloc (.cells newc 85)).drew.heap[t]? = _ := blk_drew (blk_alloc (blk_alloc hC.hT _) _)
  have hnt : some t ≠ nv.ownBlock := Ne.symm (hne.2 nv tv_nv).1
  have hT1 := blk_grown hT0 hgrow hnt
  have hsz : ((w.alloc (.cells box 45)).alloc (.cells newc 85)).drew.heap.size = w.heap.size + 2 := by simp
  have hF1 : Frm (fun b => b = t ∨ nv.ownBlock = some b) w (w1.setCell ⟨t, 0, none⟩ (.slice (some ⟨gg, 0, none⟩) (nodes.length + 1) cap)) :=
    ((((Frm.refl _ w).alloc _).alloc _).drew.grown hgrow (fun k e => .inl (.inr e))).setCell (.inl (.inl rfl)) _
  have hgt : gg ≠ t := by
    rintro rfl
    rcases hat with h | h
    · exact hnt h.symm
    · have := blk_lt hC.hT; omega
  have hnode := hC.node (x := x) hF1 (by have := blk_set hT1 0 (.slice (some ⟨gg, 0, none⟩) (nodes.length + 1) cap); simpa using this) (owns_setCell hown1 (by simpa [Value.ownBlock] using hgt) _)
    (by rcases hat with h | h
        · exact .inl (by rw [h]; rfl)
        · exact .inr ⟨gg, rfl, by omega⟩) hk
  have hbox0 : ((w.alloc (.cells box 45)).alloc (.cells newc 85)).drew.heap[w.heap.size]? = some (.cells box 45 (0, 0)) := blk_drew (blk_alloc (blk_new w _) _)
  have hbn : some w.heap.size ≠ nv.ownBlock := fun e => by have := (hC.hN.lt _ e.symm).2; omega
  have hbt : w.heap.size ≠ t := by have := blk_lt hC.hT; omega
  refine ⟨w.heap.size, _, rfl, blk_set_other (blk_grown hbox0 hgrow hbn) hbt _, ⟨_, _, _, _, _, _, hnode.1, rfl⟩, ?_, Nat.le_refl _, hF1.mono ?_, hnode.2⟩
  · have hlt := hC.lt
    have e0 : foot t m (.slice (some ⟨gg, 0, none⟩) (nodes.length + 1) cap) (kv ++ [.slice none 0 0]) gs = t :: m :: gg :: (kv.filterMap Value.ownBlock ++ (gs.map (·.2)).filterMap Value.ownBlock) := by
      simp only [foot, tvals, List.filterMap_cons, List.filterMap_append]
      simp [Value.ownBlock]
    rw [e0]
    intro hmem
    simp only [List.mem_cons] at hmem
    rcases hmem with h | h | h | h
    · exact hbt h
    · have := blk_lt hC.hM; omega
    · rcases hat with h' | h'
      · exact hbn (by rw [h', h])
      · omega
    · have : w.heap.size ∈ foot t m nv kv gs := by
        simp only [foot, tvals, List.mem_cons, List.filterMap_cons, List.filterMap_append]
        refine .inr (.inr ?_)
        split
        · exact h
        · exact List.mem_cons_of_mem _ h
      have := hlt _ this
      omega
  · rintro b (rfl | h)
    · exact foot_t
    · exact foot_v tv_nv h

/-- Behind 'l.states[e.State] = append(l.states[e.State], n)'. -/
theorem mid_file {wc : World} {F0 : List Nat} {box : Array Value} {B : Nat} (hC : TreeC wc t nv m kv es clock gs nodes kf xf now) (hbox : wc.heap[B]? = some (.cells box 45 (0, 0))) (hBF : B ∉ foot t m nv kv gs) (hB : w.heap.size ≤ B)
    (hfr : Frm (· ∈ F0) w wc) (hF : ∀ b ∈ foot t m nv kv gs, b ∈ F0 ∨ w.heap.size ≤ b) {s : ByteArray} {n cap gg : Nat} {newc : Array Value} {es' : Array MapEntry} {clock' : Nat}
    (hgrow : (wc.alloc (.cells newc 3)).drew.grownBy w1 ((gget gs s).getD (.slice none 0 0)).ownBlock)
    (hown1 : w1.ownsRow 0 3 1 (.slice (some ⟨gg, 0, none⟩) ((xf s).length + 1) cap) ((xf s).length + 1) (ints (xf s) ++ [.int .i64 n]))
    (hat : ((gget gs s).getD (.slice none 0 0)).ownBlock = some gg ∨ gg = (wc.alloc (.cells newc 3)).drew.heap.size)
    (hMI' : MapIs es'.toList (gput gs s (.slice (some ⟨gg, 0, none⟩) ((xf s).length + 1) cap))) :
    AddMid w F0 box t nodes kf (fun q => if q = s then xf s ++ [n] else xf q) now (.pointer (some ⟨B, 0, none⟩)) (w1.putObj m (.map es' clock')) := by
  have hne := hC.ne
  obtain ⟨u, hu⟩ : ∃ u, (gget gs s).getD (.slice none 0 0) = u := ⟨_, rfl⟩
  have huv : u = .slice none 0 0 ∨ u ∈ tvals nv kv gs := by
    rw [← hu]
    unfold gget
    cases hf : gfind s gs 0 with
    | none => exact .inl rfl
    | some q =>
      obtain ⟨j, v⟩ := q
      obtain ⟨k, _, hk⟩ := gfind_mem hf
      exact .inr (List.mem_of_getElem? (tv_grp hk))
  rw [hu] at hgrow hat
  have hum : u.ownBlock ≠ some m := by
    rcases huv with rfl | h
    · simp [Value.ownBlock]
    · exact (hne.2 u h).2
  have huB : u.ownBlock ≠ some B := by
    rcases huv with rfl | h
    · simp [Value.ownBlock]
    · exact fun e => hBF (foot_v h e)
  have hBm : B ≠ m := fun e => hBF (by rw [e]; exact foot_m)
  have hsz : (wc.alloc (.cells newc 3)).drew.heap.size = wc.heap.size + 1 := by simp
  have hM1 : w1.heap[m]? = some (.map es clock) := blk_grown (blk_drew (blk_alloc hC.hM _)) hgrow (Ne.symm hum)
  have hF1 : Frm (fun b => b = m ∨ u.ownBlock = some b) wc (w1.putObj m (.map es' clock')) :=
    (((Frm.refl _ wc).alloc _).drew.grown hgrow (fun k e => .inl (.inr e))).putObj (.inl (.inl rfl)) _
  have hgm : gg ≠ m := by
    rintro rfl
    rcases hat with h | h
    · exact hum h
    · have := blk_lt hC.hM; omega
  have hfile := hC.file (s := s) (n := n) (v' := .slice (some ⟨gg, 0, none⟩) ((xf s).length + 1) cap) (by rw [hu]; exact hF1) (blk_putObj_same hM1) hMI' (owns_putObj hown1 (by simpa [Value.ownBlock] using hgm) _)
    (by rw [hu]; rcases hat with h | h
        · exact .inl (by rw [h]; rfl)
        · exact .inr ⟨gg, rfl, by omega⟩)
  have hB1 : w1.heap[B]? = some (.cells box 45 (0, 0)) := blk_grown (blk_drew (blk_alloc hbox _)) hgrow (Ne.symm huB)
  have hsub : ∀ b, (b = m ∨ u.ownBlock = some b) → b ∈ foot t m nv kv gs := by
    rintro b (rfl | h)
    · exact foot_m
    · rcases huv with rfl | h'
      · simp [Value.ownBlock] at h
      · exact foot_v h' h
  refine ⟨B, _, rfl, blk_putObj hB1 hBm, ⟨_, _, _, _, _, _, hfile.1, rfl⟩, fun hmem => ?_, hB, hfr.trans' hF1 (fun i hi => hF i (hsub i hi)), fun b hb => ?_⟩
  · rcases hfile.2 B hmem with h | h
    · exact hBF h
    · have := blk_lt hbox; omega
  · rcases hfile.2 b hb with h | h
    · exact hF b h
    · have := hfr.size; exact .inr (by omega)

/-- Behind 'p.children = append(p.children, n)'. -/
theorem mid_child {wc : World} {F0 : List Nat} {g cp : Nat} (hC : TreeC wc t (.slice (some ⟨g, 0, none⟩) nodes.length cp) m kv es clock gs nodes kf xf now) 
    (hfr : Frm (· ∈ F0) w wc) (hF : ∀ b ∈ foot t m (.slice (some ⟨g, 0, none⟩) nodes.length cp) kv gs, b ∈ F0 ∨ w.heap.size ≤ b) {i n cap gg : Nat} {k : Value} {newc : Array Value} (hi : kv[i]? = some k)
    (hgrow : (wc.alloc (.cells newc 3)).grownBy w1 k.ownBlock)
    (hown1 : w1.ownsRow 0 3 1 (.slice (some ⟨gg, 0, none⟩) ((kf i).length + 1) cap) ((kf i).length + 1) (ints (kf i) ++ [.int .i64 n]))
    (hat : k.ownBlock = some gg ∨ gg = (wc.alloc (.cells newc 3)).heap.size) :
    TreeC (w1.setCell ⟨g, i * 6 + 4, none⟩ (.slice (some ⟨gg, 0, none⟩) ((kf i).length + 1) cap)) t (.slice (some ⟨g, 0, none⟩) nodes.length cp) m (kv.set i (.slice (some ⟨gg, 0, none⟩) ((kf i).length + 1) cap)) es clock gs nodes (fun j => if j = i then kf i ++ [n] else kf j) xf now ∧
      Frm (· ∈ F0) w (w1.setCell ⟨g, i * 6 + 4, none⟩ (.slice (some ⟨gg, 0, none⟩) ((kf i).length + 1) cap)) ∧
      ∀ b ∈ foot t m (.slice (some ⟨g, 0, none⟩) nodes.length cp) (kv.set i (.slice (some ⟨gg, 0, none⟩) ((kf i).length + 1) cap)) gs, b ∈ F0 ∨ w.heap.size ≤ b := by
  have hne := hC.ne
  have hvnd := hC.vnd
  have hkv : k ∈ tvals (.slice (some ⟨g, 0, none⟩) nodes.length cp) kv gs := List.mem_of_getElem? (tv_kid hi)
  have hkg : k.ownBlock ≠ some g := fm_ne hvnd (i := 0) (j := i + 1) rfl (tv_kid hi) (by omega) rfl
  have hsz : (wc.alloc (.cells newc 3)).heap.size = wc.heap.size + 1 := by simp
  have hglt := (hC.hN.lt g rfl).2
  have hil : i < kv.length := (List.getElem?_eq_some_iff.1 hi).1
  have hkl := hC.hkl
  have hgg : gg ≠ g := by
    rintro rfl
    rcases hat with h | h
    · exact hkg h
    · omega
  have hF1 : Frm (fun b => (Value.slice (some ⟨g, 0, none⟩) nodes.length cp).ownBlock = some b ∨ k.ownBlock = some b) wc (w1.setCell ⟨g, i * 6 + 4, none⟩ (.slice (some ⟨gg, 0, none⟩) ((kf i).length + 1) cap)) :=
    (((Frm.refl _ wc).alloc _).grown hgrow (fun k e => .inl (.inr e))).setCell (.inl (.inl rfl)) _
  have hN1 : w1.ownsRow 0 85 6 (.slice (some ⟨g, 0, none⟩) nodes.length cp) nodes.length (flat nodes kv) := (hC.hN.alloc _).kept hgrow (.inr (fun e => hkg (by rw [← e]; rfl)))
  have hchild := hC.child hi hF1 (hN1.stored (i * 6 + 4) _).1 (owns_setCell hown1 (by simpa [Value.ownBlock] using hgg) _)
    (by rcases hat with h | h
        · exact .inl (by rw [h]; rfl)
        · exact .inr ⟨gg, rfl, by omega⟩)
  refine ⟨hchild.1, hfr.trans' hF1 (fun j hj => hF j ?_), fun b hb => ?_⟩
  · rcases hj with h | h
    · exact foot_v tv_nv h
    · exact foot_v hkv h
  · rcases hchild.2 b hb with h | h
    · exact hF b h
    · have := hfr.size; exact .inr (by omega)

/-- Behind 'p.favourite = n'. -/
theorem mid_fav {wc : World} {F0 : List Nat} {g cp : Nat} (hC : TreeC wc t (.slice (some ⟨g, 0, none⟩) nodes.length cp) m kv es clock gs nodes kf xf now)
    (hfr : Frm (· ∈ F0) w wc) (hF : ∀ b ∈ foot t m (.slice (some ⟨g, 0, none⟩) nodes.length cp) kv gs, b ∈ F0 ∨ w.heap.size ≤ b) (i : Nat) (f : Int) :
    ∃ F', TreeG (wc.setCell ⟨g, i * 6 + 5, none⟩ (.int .i64 f)) t F' (nodes.modify i fun x => { x with fav := f }) kf xf now ∧ Frm (· ∈ F0) w (wc.setCell ⟨g, i * 6 + 5, none⟩ (.int .i64 f)) ∧ ∀ b ∈ F', b ∈ F0 ∨ w.heap.size ≤ b := by
  have hF1 : Frm (fun b => (Value.slice (some ⟨g, 0, none⟩) nodes.length cp).ownBlock = some b) wc (wc.setCell ⟨g, i * 6 + 5, none⟩ (.int .i64 f)) := by
    refine Frm.setCell (Frm.refl _ wc) (p := ⟨g, i * 6 + 5, none⟩) ?_ _
    exact .inl rfl
  have hfav := hC.fav hF1 (hC.hN.stored (i * 6 + 5) _).1
  exact ⟨_, ⟨_, _, _, _, _, _, hfav, rfl⟩, hfr.trans' hF1 (fun j hj => hF j (foot_v tv_nv hj)), hF⟩
end
end Go.HK
