/- The walk of MeasureWrong: its parts in memory. -/
import Derived.Test.YtfebcpmbkljaoaaWrP
import Derived.Deep.RegionHeld3
import Derived.Deep.RegionLaw
import Derived.Test.YtfebcpmbkljaoaaGoal
namespace Go.Proofs.Ytfebcpmbkljaoaa
open Go.RowKit Go.HR
set_option linter.unusedVariables false
set_option linter.unusedSimpArgs false
set_option linter.unusedSectionVars false
/-- Ways in memory. -/
def IsY (W : World) (s : SL) (ws : List (List Nat)) : Prop :=
  s.n = ws.length ∧ ∀ (k : Nat) u, ws[k]? = some u → ∃ ad sl, s.a = some ad ∧ W.cell? (ad.add k) = some (SL.v sl) ∧ BytesAt W sl.a sl.n u ∧ sl.n ≤ sl.c ∧ (sl.a = none → sl.c = 0)
theorem IsY.below {W W' : World} {s : SL} {ws : List (List Nat)} (h : IsY W s ws) (hb : Below W.heap.size W W') : IsY W' s ws :=
  ⟨h.1, fun k u hu => by
    obtain ⟨ad, sl, h1, h2, h3, h4⟩ := h.2 k u hu
    exact ⟨ad, sl, h1, cell_then h2 hb, h3.below hb, h4⟩⟩
theorem elem37 : HK.ElemOk Try.prog 28 37 1 24 := HK.ElemOk.mk' (z := .slice none 0 0) Try.underlying28 (by kernel_rfl) rfl (by decide)
theorem elem3 : HK.ElemOk Try.prog 37 3 1 8 := HK.ElemOk.mk' (z := .int .i64 0) Try.underlying37 (by kernel_rfl) rfl (by decide)
/-- Places in a row of the call's own. -/
def PRow (W : World) (base : Nat) (v : SL) (xs : List (List Nat × SL)) : Prop := W.ownsRow base 37 1 v.v xs.length (xs.map fun x => x.2.v) ∧ ∀ x ∈ xs, PlaceB W x.2 x.1
theorem PRow.nil (W : World) (b : Nat) : PRow W b SL.nil [] := ⟨World.ownsRow_nil _ _ _ _, fun x hx => by cases hx⟩
theorem PRow.form {W : World} {b : Nat} {v : SL} {xs : List (List Nat × SL)} (h : PRow W b v xs) : v.n = xs.length := by
  rcases h.1.2 with ⟨h0, h1⟩ | ⟨g, cap, cur, hv, _⟩
  · simp only [SL.v, Value.slice.injEq] at h0; omega
  · simp only [SL.v, Value.slice.injEq] at hv; exact hv.2.1
theorem PRow.below {W W' : World} {b : Nat} {v : SL} {xs : List (List Nat × SL)} (h : PRow W b v xs) (hb : Below W.heap.size W W') : PRow W' b v xs := by
  refine ⟨⟨h.1.1, ?_⟩, fun x hx => (h.2 x hx).same fun k hk => hb.block k ((h.2 x hx).lt hk)⟩
  rcases h.1.2 with h0 | ⟨g, cap, cur, hv, hg, hh, r⟩
  · exact .inl h0
  · exact .inr ⟨g, cap, cur, hv, hg, (hb.block g (HK.blk_lt hh)).trans hh, r⟩
theorem PRow.at {W : World} {b : Nat} {v : SL} {xs : List (List Nat × SL)} (h : PRow W b v xs) {i : Nat} {x : List Nat × SL} (hx : xs[i]? = some x) : ∃ g, v.a = some ⟨g, 0, none⟩ ∧ W.cell? ⟨g, i, none⟩ = some x.2.v ∧ PlaceB W x.2 x.1 := by
  rcases h.1.2 with ⟨h0, h1⟩ | ⟨g, cap, cur, hv, hg, hh, r⟩
  · rw [List.length_eq_zero_iff.1 h1] at hx; simp at hx
  · have hc := h.1.cells (g := g) (by rw [hv]; rfl) i x.2.v (by rw [List.getElem?_map, hx]; rfl)
    rw [add_zero_at] at hc
    simp only [SL.v, Value.slice.injEq] at hv
    exact ⟨g, hv.1, hc, h.2 x (List.mem_of_getElem? hx)⟩
theorem PRow.isW {W : World} {b : Nat} {v : SL} {xs : List (List Nat × SL)} (h : PRow W b v xs) : IsW W v ((xs.map (·.1)).map natI) := by
  refine ⟨by simp [h.form], ?_⟩
  cases hxs : xs with
  | nil => exact .inl rfl
  | cons x0 xr =>
    right
    obtain ⟨g, hg, _⟩ := h.at (i := 0) (x := x0) (by rw [hxs]; rfl)
    refine ⟨g, 0, hg, fun i => ((xs[i]?).map (·.2)).getD SL.nil, fun i u hu => ?_⟩
    rw [← hxs] at hu
    simp only [List.getElem?_map, Option.map_map, Option.map_eq_some_iff] at hu
    obtain ⟨x, hx, rfl⟩ := hu
    obtain ⟨g', hg', hc, hp⟩ := h.at hx
    rw [hg] at hg'; cases hg'
    simp only [hx, Option.map_some, Option.getD_some, Nat.zero_add]
    exact ⟨hc, hp.isI⟩
theorem elem_next {W W1 : World} {b g cap : Nat} {v : SL} {xs : List (List Nat × SL)} {x : List Nat × SL} {o : Obj} (h : PRow W b v xs) (hb : b ≤ W.heap.size) (hx : PlaceB W x.2 x.1) (hgrow : (W.alloc o).grownBy W1 v.v.ownBlock)
    (hown : W1.ownsRow 0 37 1 (.slice (some ⟨g, 0, none⟩) (xs.length + 1) cap) (xs.length + 1) ((xs.map fun x => x.2.v) ++ [x.2.v])) (hat : v.v.ownBlock = some g ∨ g = (W.alloc o).heap.size) : PRow W1 b ⟨some ⟨g, 0, none⟩, xs.length + 1, cap⟩ (xs ++ [x]) ∧ Below b W W1 := by
  have hp : ∀ y : List Nat × SL, PlaceB W y.2 y.1 → PlaceB W1 y.2 y.1 := fun y hy => hy.same fun k hk => by
    rcases hy.2 with ⟨h0, _⟩ | ⟨g', cap', cur', hv', hg', hh', r'⟩
    · rw [h0] at hk; cases hk
    · rw [hv'] at hk
      simp only [Value.ownBlock, Option.some.injEq] at hk
      subst hk
      have hne : v.v.ownBlock ≠ some g' := fun e => by
        rcases h.1.2 with ⟨h0, _⟩ | ⟨g2, cap2, cur2, hv2, hg2, hh2, r2⟩
        · rw [h0] at e; cases e
        · rw [hv2] at e
          simp only [Value.ownBlock, Option.some.injEq] at e
          subst e
          rw [hh'] at hh2; simp at hh2
      exact (HK.blk_grown2 hgrow (HK.blk_alloc hh' o) (fun e => hne e.symm)).trans hh'.symm
  have hbel : Below b W W1 := ((Below.refl b W).alloc hb o).grown hgrow (by simp; omega) (fun k e => (h.1.lt k e).1)
  refine ⟨⟨?_, fun y hy => ?_⟩, hbel⟩
  · simp only [SL.v, List.length_append, List.length_singleton, List.map_append, List.map_cons, List.map_nil]
    refine ⟨hown.1, ?_⟩
    rcases hown.2 with h0 | ⟨g', cap', cur', hv', hg', r'⟩
    · exact .inl h0
    · refine .inr ⟨g', cap', cur', hv', ?_, r'⟩
      simp only [Value.slice.injEq, Option.some.injEq, Addr.mk.injEq] at hv'
      obtain ⟨⟨rfl, _⟩, _⟩ := hv'
      rcases hat with e | e
      · exact (h.1.lt _ e).1
      · rw [e]; simp; omega
  · rcases List.mem_append.1 hy with hy | hy
    · exact hp y (h.2 y hy)
    · rw [List.mem_singleton.1 hy]; exact hp x hx
/-- A number more in a place of the call's own. -/
theorem place_next {W W0 W1 : World} {Q g cap k : Nat} {v : SL} {pl : List Nat} {x : Nat} (h : W.ownsRow (Q + 1) 3 1 v.v pl.length (ints pl)) (hQ : Q + 1 ≤ W.heap.size) (hs0 : W.heap.size ≤ W0.heap.size) (hgrow : W0.grownBy W1 v.v.ownBlock)
    (hown : W1.ownsRow 0 3 1 (.slice (some ⟨g, 0, none⟩) (pl.length + 1) cap) (pl.length + 1) (ints pl ++ [.int .i64 x])) (hat : v.v.ownBlock = some g ∨ g = W0.heap.size) : W1.ownsRow (Q + 1) 3 1 (.slice (some ⟨g, 0, none⟩) (pl ++ [x]).length cap) (pl ++ [x]).length (ints (pl ++ [x])) := by
  have e : ints (pl ++ [x]) = ints pl ++ [.int .i64 x] := by simp [ints]
  rw [e, List.length_append, List.length_singleton]
  refine ⟨hown.1, ?_⟩
  rcases hown.2 with h0 | ⟨g', cap', cur', hv', hg', r'⟩
  · exact .inl h0
  · refine .inr ⟨g', cap', cur', hv', ?_, r'⟩
    simp only [Value.slice.injEq, Option.some.injEq, Addr.mk.injEq] at hv'
    obtain ⟨⟨rfl, _⟩, _⟩ := hv'
    rcases hat with e | e
    · exact (h.lt _ e).1
    · omega
theorem placesOf_map (t : PT) (us : List (List Nat)) : PlacesOf t (us.map fun u => placeT t (u.take 12)) := fun p hp => by
  obtain ⟨u, _, rfl⟩ := List.mem_map.1 hp
  exact placeT_walk _ t whole
theorem placesLen (t : PT) (us : List (List Nat)) : ∀ p ∈ us.map (fun u => placeT t (u.take 12)), p.length ≤ 12 := fun p hp => by
  obtain ⟨u, _, rfl⟩ := List.mem_map.1 hp
  have := placeT_len (u.take 12) t
  have : (u.take 12).length ≤ 12 := by simp; omega
  omega
theorem bl_al {w W : World} {o : Obj} (h : Below w.heap.size w W) : Below w.heap.size w (W.alloc o) := h.alloc h.size o
theorem bl_dr {w W : World} (h : Below w.heap.size w W) : Below w.heap.size w W.drew := h.trans ⟨rfl, rfl, rfl, Nat.le_refl _, fun _ _ => rfl⟩
/-- What Goals answers. -/
def RetGo (W : World) (g : List StepD) (e : Ending) (w' : World) : Prop := ∃ v gs, e = .returned (.tuple #[v, .int .i64 0]) ∧ gs.map (·.d) = g ∧ IsG w' W.heap.size v gs ∧ Below W.heap.size W w'
section
variable {W : World} {t : PT} {sv s : SL} {ps : List (List Nat)} (hm : measT t = true) (hs : IsPs W.heap.size W sv t.subs) (hw : IsW W s (ps.map natI)) (hp : PlacesOf t ps) (hl : ps.length ≤ 20000) (hu : ∀ p ∈ ps, p.length ≤ 20000)
include hm hs hw hp hl hu
theorem prog_at : Calls Try.prog 17 #[.agg (t.arr sv), s.v] W (RetS2 W (progL t (ps.map natI) : Nat) 0) := by
  have h := progress_call W t sv s (ps.map natI) hs (by have := meas_size hm; omega) hw (by simpa using hl) (fun u hu2 => by obtain ⟨p, hp2, rfl⟩ := List.mem_map.1 hu2; simpa [natI] using hu p hp2)
  rw [code_places hm hp] at h
  exact h
theorem goals_at : Calls Try.prog 11 #[.agg (t.arr sv), s.v] W (RetGo W (goalsL t (ps.map natI))) := by
  have h := goals_call W t sv s (ps.map natI) hs (by have := meas_size hm; omega) hw (by simpa using hl) (fun u hu2 => by obtain ⟨p, hp2, rfl⟩ := List.mem_map.1 hu2; simpa [natI] using hu p hp2)
  unfold RetG at h
  rw [code_places hm hp] at h
  exact h
end
end Go.Proofs.Ytfebcpmbkljaoaa
