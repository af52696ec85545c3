/- The walk of look. -/
import Derived.Test.YtfebcpmbkljaoaaMeaJ
namespace Go.Proofs.Ytfebcpmbkljaoaa
open Go.RowKit Go.HR
set_option linter.unusedVariables false
set_option linter.unusedSimpArgs false
set_option linter.unusedSectionVars false
theorem IsPs.mono {n0 n1 : Nat} {W : World} {s : SL} {ts : List PT} (h : IsPs n0 W s ts) (hn : n0 ≤ n1) : IsPs n1 W s ts := by
  induction h with
  | nil a c => exact .nil a c
  | row g o c ts sv hg hc hs ih => exact .row g o c ts sv (Nat.lt_of_lt_of_le hg hn) hc ih
theorem IsPs.up {W W' : World} {s : SL} {ts : List PT} (h : IsPs W.heap.size W s ts) (hb : Below W.heap.size W W') : IsPs W'.heap.size W' s ts := (h.same fun j hj => hb.block j hj).mono hb.size
/-- Lists of integers in memory. -/
def IsW (W : World) (s : SL) (ws : List (List Int)) : Prop :=
  s.n = ws.length ∧ (ws = [] ∨ ∃ g o, s.a = some ⟨g, o, none⟩ ∧ ∃ sl : Nat → SL, ∀ (i : Nat) u, ws[i]? = some u → W.cell? ⟨g, o + i, none⟩ = some (sl i).v ∧ IsI W (sl i) u)
theorem IsW.below {W W' : World} {s : SL} {ws : List (List Int)} (h : IsW W s ws) (hb : Below W.heap.size W W') : IsW W' s ws := by
  refine ⟨h.1, ?_⟩
  rcases h.2 with h0 | ⟨g, o, ha, sl, hc⟩
  · exact .inl h0
  · exact .inr ⟨g, o, ha, sl, fun i u hu => ⟨(hb.cell (p := ⟨g, o + i, none⟩) (World.block_lt_of_cell? W _ (hc i u hu).1)).trans (hc i u hu).1, (hc i u hu).2.below hb⟩⟩
def badL (xs : List StepV) (us : List (List Int)) : List Value := xs.map fun x => .bool (decide (plI x ∈ us))
theorem badL_len (xs : List StepV) (us : List (List Int)) : (badL xs us).length = xs.length := by simp [badL]
theorem badL_nil (xs : List StepV) : (badL xs []).toArray = Array.replicate xs.length (.bool false) := by
  apply Array.ext'
  simp only [badL, Array.toList_replicate]
  rw [List.eq_replicate_iff]
  simp
theorem badL_on {xs : List StepV} {us : List (List Int)} {u : List Int} {i : Nat} {x : StepV} (hx : xs[i]? = some x) (hu : plI x = u) (hinj : ∀ j y, xs[j]? = some y → plI y = u → j = i) :
    (badL xs us).toArray.setIfInBounds i (.bool true) = (badL xs (us ++ [u])).toArray := by
  apply Array.ext'
  apply List.ext_getElem?
  intro j
  simp only [Array.toList_setIfInBounds, badL, List.getElem?_set, List.getElem?_map, List.length_map, List.mem_append, List.mem_singleton]
  obtain ⟨hi, hxe⟩ := List.getElem?_eq_some_iff.1 hx
  by_cases hij : i = j
  · subst hij
    rw [if_pos rfl, if_pos hi, hx]
    simp [hu]
  · rw [if_neg hij]
    cases hy : xs[j]? with
    | none => rfl
    | some y =>
      simp only [Option.map_some, Option.some.injEq, Value.bool.injEq, decide_eq_decide]
      constructor
      · exact .inl
      · rintro (h | h)
        · exact h
        · exact absurd (hinj j y hy h).symm hij
structure LkA (w1 : World) (xs : List StepV) (ws : List (List Int)) (k : Nat) (W : World) : Prop where
  hB : Below w1.heap.size w1 W
  hb : W.heap[w1.heap.size]? = some (.cells (badL xs (ws.take k)).toArray 4 (0, 0))
  all : ∀ u ∈ ws.take k, ∃ x ∈ xs, plI x = u
def flatG (gs : List StepV) : List Value := gs.flatMap fun x => [x.pv.v, .int .i64 (x.d.wt : Nat)]
theorem flatG_on (gs : List StepV) (x : StepV) : flatG (gs ++ [x]) = flatG gs ++ [x.pv.v, .int .i64 (x.d.wt : Nat)] := by simp [flatG]
structure LkB (w2 : World) (xs gs : List StepV) (v : Value) (W : World) : Prop where
  hB : Below w2.heap.size w2 W
  row : W.ownsRow w2.heap.size 39 2 v gs.length (flatG gs)
  mem : ∀ x ∈ gs, x ∈ xs
/-- Goals in memory. -/
def IsG (W : World) (base : Nat) (v : Value) (gs : List StepV) : Prop := W.ownsRow base 39 2 v gs.length (flatG gs) ∧ ∀ x ∈ gs, PlaceB W x.pv x.d.pl
/-- What look answers. -/
inductive RetLook (w : World) (t : PT) (ws : List (List Int)) (e : Ending) (w' : World) : Prop
  | arg (hm : measT t = false) (he : e = .returned (.tuple #[.slice none 0 0, .int .i64 0, .int .i64 2])) (hB : Below w.heap.size w w')
  | miss (hm : measT t = true) (u : List Int) (hu : u ∈ ws) (hn : ∀ d ∈ stepsT [] whole t, plD d ≠ u) (he : e = .returned (.tuple #[.slice none 0 0, .int .i64 0, .int .i64 6])) (hB : Below w.heap.size w w')
  | ok (hm : measT t = true) (ha : ∀ u ∈ ws, ∃ d ∈ stepsT [] whole t, plD d = u) (gs : List StepV) (v : Value) (hg : gs.map (·.d) = (scanS (badD ws) (stepsT [] whole t)).1) (hG : IsG w' w.heap.size v gs)
    (he : e = .returned (.tuple #[v, .int .i64 ((scanS (badD ws) (stepsT [] whole t)).2 : Nat), .int .i64 0])) (hB : Below w.heap.size w w')
theorem info39 : (Try.prog.info? 39).map (fun i => (i.zero, i.size, i.bytes)) = some (some (.agg #[.slice none 0 0, .int .i64 0]), 2, 32) := by kernel_rfl
theorem flat_get {α : Type} (f : α → List Value) (m : Nat) (hf : ∀ x, (f x).length = m) : ∀ (xs : List α) (i j : Nat) (x : α), xs[i]? = some x → j < m → (xs.flatMap f)[i * m + j]? = (f x)[j]?
  | [], i, j, x, h, _ => by simp at h
  | y :: xs, 0, j, x, h, hj => by
    simp at h; subst h
    rw [List.flatMap_cons, Nat.zero_mul, Nat.zero_add, List.getElem?_append_left (by rw [hf]; exact hj)]
  | y :: xs, i + 1, j, x, h, hj => by
    rw [List.flatMap_cons, List.getElem?_append_right (by rw [hf, Nat.add_mul]; omega), hf, show (i + 1) * m + j - m = i * m + j by rw [Nat.add_mul]; omega]
    exact flat_get f m hf xs i j x (by simpa using h) hj
theorem add_zero_at (g j : Nat) : (⟨g, 0, none⟩ : Addr).add j = ⟨g, j, none⟩ := by
  simp only [Addr.add]
  by_cases h : j = 0
  · subst h; rfl
  · simp [h]
/-- The row of the steps, read. -/
theorem allR_of {W : World} {base n0 : Nat} {v : Value} {xs : List StepV} (h : W.ownsRow base 92 10 v xs.length (flatS xs)) (ht : ∀ x ∈ xs, ToldS n0 x W) (hne : xs ≠ []) : ∃ g cap, v = .slice (some ⟨g, 0, none⟩) xs.length cap ∧ AllR W g xs := by
  rcases h.2 with ⟨h0, h1⟩ | ⟨g, cap, cur, hv, hg, hh, r⟩
  · exact absurd (List.length_eq_zero_iff.1 h1) hne
  · refine ⟨g, cap, hv, ⟨fun i x hx j u hu => ?_, fun x hx => (ht x hx).1⟩⟩
    have hj : j < 10 := by
      obtain ⟨hl, _⟩ := Array.getElem?_eq_some_iff.1 hu
      exact hl
    have hc := h.cells (g := g) (by rw [hv]; rfl) (i * 10 + j) u (by
      rw [flatS, flat_get (fun x : StepV => x.cells.toList) 10 (fun x => rfl) xs i j x hx hj, ← hu, Array.getElem?_toList])
    rwa [add_zero_at] at hc
theorem LkA.start (w1 : World) (xs : List StepV) (ws : List (List Int)) (o : Obj) (ho : o = .cells (Array.replicate xs.length (.bool false)) 4) : LkA w1 xs ws 0 (w1.alloc o) :=
  ⟨(Below.refl _ w1).alloc (Nat.le_refl _) _, by rw [List.take_zero, badL_nil, ho]; exact HK.blk_new _ _, by intro u hu; simp at hu⟩
theorem LkA.on {w1 W : World} {xs : List StepV} {ws : List (List Int)} {k i : Nat} {u : List Int} {x : StepV} (h : LkA w1 xs ws k W) (hu : ws[k]? = some u) (hx : xs[i]? = some x) (he : plI x = u) (hinj : ∀ j y, xs[j]? = some y → plI y = u → j = i) :
    LkA w1 xs ws (k + 1) (W.setCell ⟨w1.heap.size, i, none⟩ (.bool true)) := by
  obtain ⟨hl, hue⟩ := List.getElem?_eq_some_iff.1 hu
  have ht : ws.take (k + 1) = ws.take k ++ [u] := by rw [List.take_succ_eq_append_getElem hl, hue]
  refine ⟨h.hB.setCell (p := ⟨w1.heap.size, i, none⟩) (Nat.le_refl _) _, ?_, fun y hy => ?_⟩
  · rw [ht, ← badL_on hx he hinj]; exact HK.blk_set h.hb i _
  · rw [ht] at hy
    rcases List.mem_append.1 hy with hy | hy
    · exact h.all y hy
    · rw [List.mem_singleton.1 hy]; exact ⟨x, List.mem_of_getElem? hx, he⟩
theorem LkA.below {w1 W W' : World} {xs : List StepV} {ws : List (List Int)} {k : Nat} (h : LkA w1 xs ws k W) (hb : Below W.heap.size W W') : LkA w1 xs ws k W' :=
  ⟨h.hB.trans (hb.mono h.hB.size), (hb.block _ (HK.blk_lt h.hb)).trans h.hb, h.all⟩
set_option maxRecDepth 100000 in
set_option maxHeartbeats 8000000 in
theorem look_arg (w : World) (t : PT) (sv s : SL) (ws : List (List Int)) (hs : IsPs w.heap.size w sv t.subs) (hsz : sizeT t ≤ 10000) (hm : measT t = false) : Calls Try.prog 40 #[.agg (t.arr sv), s.v] w (RetLook w t ws) := by
  have h := fun (w : World) hs => measurable_call w t sv hs hsz
  obtain ⟨a0, a1, a2, a3, a4, a5, a6, a7, hA⟩ : ∃ a0 a1 a2 a3 a4 a5 a6 a7, t.arr sv = #[a0, a1, a2, a3, a4, a5, a6, a7] := ⟨_, _, _, _, _, _, _, _, rfl⟩
  rw [hA] at h ⊢
  have hb := (Below.refl _ w).alloc (Nat.le_refl _) (.cells #[a0, a1, a2, a3, a4, a5, a6, a7] 30)
  have hc := h _ (hs.up hb)
  unfold RetMs at hc
  rw [hm] at hc
  have HC := Lib.hid hc
  have HB := Lib.hid hb
  clear h hc hb hA hs
  go_enter Try.func40, Try.ntmps40
  go_wp2_with (go_at_call 45; (refine HC.out.mono ?_; rintro e w' ⟨rfl, hB2⟩))
  go_ret3
  exact .arg hm rfl (HB.out.trans (hB2.mono (by simp)))
end Go.Proofs.Ytfebcpmbkljaoaa
