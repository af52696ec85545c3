/- Rows of numbers as a walk reads them; the numbers that a loop has seen. -/
import Derived.Test.YthneinepdbkgeaaBetwp
import Derived.Test.YthneinepdbkgeaaActn
import Derived.Deep.OwnRows
namespace Go.Proofs.Ythneinepdbkgeaa
open Go.RowKit Go.HK
set_option linter.unusedVariables false
set_option linter.unusedSimpArgs false
set_option linter.unusedSectionVars false
/-- At block g lie the n numbers xs. -/
structure RowAt (w : World) (g n : Nat) (xs : List Nat) : Prop where
  len : xs.length = n
  cell : ∀ (j x : Nat), xs[j]? = some x → w.cell? ⟨g, j, none⟩ = some (.int .i64 x)
  lt : g < w.heap.size
theorem RowAt.below {w w' : World} {g n B : Nat} {xs : List Nat} (h : RowAt w g n xs) (hb : Below B w w') (hB : w.heap.size ≤ B) : RowAt w' g n xs :=
  ⟨h.len, fun j x hx => (hb.cell (p := ⟨g, j, none⟩) (Nat.lt_of_lt_of_le h.lt hB)).trans (h.cell j x hx), Nat.lt_of_lt_of_le h.lt hb.size⟩
theorem RowAt.below' {w w' : World} {g n : Nat} {xs : List Nat} (h : RowAt w g n xs) (hb : Below w.heap.size w w') : RowAt w' g n xs := h.below hb (Nat.le_refl _)
theorem RowAt.drewN {w : World} {g n : Nat} {xs : List Nat} (h : RowAt w g n xs) (d : Nat) : RowAt (w.drewN d) g n xs := ⟨h.len, h.cell, h.lt⟩
theorem RowAt.nums {w : World} {g n : Nat} {xs : List Nat} (h : RowAt w g n xs) : ∀ k : Nat, k < n → w.cell? ⟨g, k, none⟩ = (ints xs)[k]? := fun k hk => by
  obtain ⟨x, hx⟩ : ∃ x, xs[k]? = some x := ⟨_, List.getElem?_eq_getElem (by have := h.len; omega)⟩
  rw [h.cell k x hx]; simp [HK.ints, hx]
theorem RowAt.of {w : World} {base g n c : Nat} {xs : List Nat} (h : w.ownsRow base 3 1 (.slice (some ⟨g, 0, none⟩) n c) n (ints xs)) (hl : xs.length = n) : RowAt w g n xs :=
  ⟨hl, fun j x hx => by
    have := (List.getElem?_eq_some_iff.1 hx).1
    rw [h.cellAt j (by omega)]; simp [HK.ints, hx], own_lt h g rfl⟩
/-- A row that is not empty, and an error's number. -/
def RetP (w : World) (xs : List Nat) (n : Nat) (k : Int) (e : Ending) (w' : World) : Prop := ∃ g c, e = .returned (.tuple #[.slice (some ⟨g, 0, none⟩) n c, .int .i64 k]) ∧ RowAt w' g n xs ∧ w.heap.size ≤ g ∧ Below w.heap.size w w'
theorem RetP.of {w w' : World} {xs : List Nat} {n : Nat} {k : Int} {e : Ending} (h : RetI w xs k e w') (hl : xs.length = n) (hp : 0 < n) : RetP w xs n k e w' := by
  obtain ⟨v, rfl, ho, hB⟩ := h
  rw [hl] at ho
  obtain ⟨g, c, rfl, _, _⟩ := ho.form hp
  exact ⟨g, c, rfl, RowAt.of ho hl, own_ge ho g rfl, hB⟩
section
variable {w : World} {t : Nat} {F : List Nat} {nodes : List Go.HK.HN} {now : Nat}
theorem between_p (h : Hist w t F nodes now) (a b m : Nat) (ha : a < nodes.length) (hb : b < nodes.length) (hl : (betweenL nodes a b).length = m + 1) : Calls Try.prog 21 #[.pointer (some ⟨t, 0, none⟩), .int .i64 a, .int .i64 b] w (RetP w (betweenL nodes a b) (m + 1) 0) :=
  (between_yes h a b ha hb).mono fun e w' h1 => RetP.of h1 hl (by omega)
theorem way_p (h : Hist w t F nodes now) (a m : Nat) (ha : a < nodes.length) (hl : (wayL nodes a).length = m + 1) : Calls Try.prog 22 #[.pointer (some ⟨t, 0, none⟩), .int .i64 a] w (RetP w (wayL nodes a) (m + 1) 0) :=
  (way_yes h a ha).mono fun e w' h1 => RetP.of h1 hl (by omega)
theorem entry_p (h : Hist w t F nodes now) (n : Nat) (hn : n < nodes.length) (P : Int) (hP : parF nodes n = P) : Calls Try.prog 24 #[.pointer (some ⟨t, 0, none⟩), .int .i64 n] w (RetE w P (tickF nodes n) (noteF nodes n) (stateF nodes n) 0) := by
  subst hP; exact entry_yes h n hn
end
/-- What the three ways are, in numbers. -/
theorem betw_data {nodes : List Go.HK.HN} {now x y z : Nat} (h : WF nodes now) (hx : x < nodes.length) (hy : y < nodes.length) (hz : z < nodes.length) :
    ∃ m mo mt mr, (betweenL nodes x y).length = m + 1 ∧ (betweenL nodes y x).length = m + 1 ∧ (betweenL nodes x z).length = mo + 1 ∧ (betweenL nodes z y).length = mt + 1 ∧ (betweenL nodes 0 x).length = mr + 1 ∧ (wayL nodes x).length = mr + 1 ∧
      m ≤ mo + mt ∧ m ≤ 2000 ∧ mo ≤ 2000 ∧ mt ≤ 2000 ∧ mr ≤ 1000 := by
  have h1 := (betweenL_ok h hx hy).pos
  have h2 := (betweenL_ok h hx hz).pos
  have h3 := (betweenL_ok h hz hy).pos
  have h4 := betweenL_tri h hx hy hz
  have h5 := wayL_pos h hx
  have hu : ∀ a, a < nodes.length → (wayL nodes a).length ≤ 1000 := fun a ha => by simp only [wayL, List.length_reverse]; exact upL_len h ha
  have l1 := betweenL_length h hx hy
  have l2 := betweenL_length h hx hz
  have l3 := betweenL_length h hz hy
  have l4 := cpl_pos h hx hy
  have l5 := cpl_pos h hx hz
  have l6 := cpl_pos h hz hy
  have ux := hu x hx
  have uy := hu y hy
  have uz := hu z hz
  refine ⟨(betweenL nodes x y).length - 1, (betweenL nodes x z).length - 1, (betweenL nodes z y).length - 1, (wayL nodes x).length - 1, by omega, ?_, by omega, by omega, ?_, by omega, by omega, by omega, by omega, by omega, by omega⟩
  · rw [betweenL_back h hx hy, List.length_reverse]; omega
  · rw [betweenL_root h hx]; omega
/-- What a slice of L counters holds behind the numbers xs. -/
def seenV (L : Nat) (xs : List Nat) : List Value := (List.range L).map fun v => .int .i64 (if v ∈ xs then 1 else 0)
theorem seenV_made (L : Nat) : madeCells #[.int .i64 0] L = (seenV L []).toArray := by
  apply Array.ext
  · simp [size_madeCells, seenV]
  · intro i h1 h2
    simp [madeCells, seenV, Nat.mod_one]
theorem seenV_get {L : Nat} {xs : List Nat} {v : Nat} (hv : v < L) (h : v ∉ xs) : (seenV L xs).toArray[v]? = some (.int .i64 0) := by
  simp [seenV, hv, h]
theorem seenV_set {L : Nat} {xs : List Nat} {v : Nat} (hv : v < L) : (seenV L xs).toArray.setIfInBounds v (.int .i64 1) = (seenV L (xs ++ [v])).toArray := by
  apply Array.ext
  · simp [seenV]
  · intro i h1 h2
    simp only [seenV, List.size_toArray, List.length_map, List.length_range] at h2
    simp only [seenV, List.setIfInBounds_toArray, List.getElem_toArray, List.getElem_set, List.getElem_map, List.getElem_range]
    by_cases e : v = i
    · simp [e]
    · have : ¬ i = v := fun h => e h.symm
      simp [e, this]
/-- Behind k rounds of the last loop. -/
structure BeI (w8 : World) (L : Nat) (xs : List Nat) (wr : World) : Prop where
  b : Below w8.heap.size w8 wr
  s : wr.heap[w8.heap.size]? = some (.cells (seenV L xs).toArray 3 (0, 0))
theorem BeI.stay {w8 wr w' : World} {L : Nat} {xs : List Nat} (h : BeI w8 L xs wr) (hb : Below wr.heap.size wr w') : BeI w8 L xs w' :=
  ⟨h.b.trans (hb.mono h.b.size), (hb.block _ (blk_lt h.s)).trans h.s⟩
theorem BeI.set {w8 wr : World} {L : Nat} {xs : List Nat} (h : BeI w8 L xs wr) {v : Nat} (hv : v < L) : BeI w8 L (xs ++ [v]) (wr.setCell ⟨w8.heap.size, v, none⟩ (.int .i64 1)) :=
  ⟨h.b.setCell (by simp) _, by rw [blk_set h.s v, seenV_set hv]⟩
theorem BeI.cell {w8 wr : World} {L : Nat} {xs : List Nat} (h : BeI w8 L xs wr) {v : Nat} (hv : v < L) (hn : v ∉ xs) : wr.cell? ⟨w8.heap.size, v, none⟩ = some (.int .i64 0) := by
  rw [blk_cell h.s v, seenV_get hv hn]
theorem BeI.frozen {w8 wr : World} {L : Nat} {xs : List Nat} (h : BeI w8 L xs wr) (v : Nat) : wr.frozen? ⟨w8.heap.size, v, none⟩ = false := blk_frozen h.s v
theorem BeI.start {w8 : World} (L : Nat) : BeI w8 L [] (w8.alloc (.cells (madeCells #[.int .i64 0] L) 3)) :=
  ⟨(Below.refl _ w8).alloc (Nat.le_refl _) _, by rw [blk_new, seenV_made]⟩
end Go.Proofs.Ythneinepdbkgeaa
