/- HistorySmall (10): scripts and entries in rows of the call's own. -/
import Derived.Test.YthneinepdbkgeaaLawi
import Derived.Test.YthneinepdbkgeaaLawk
import Derived.Great.BuildSlice
import Derived.Deep.OwnRows
import Derived.Laws.BytesArg
namespace Go.Proofs.Ythneinepdbkgeaa
open Go.RowKit Go.HK
set_option linter.unusedVariables false
set_option linter.unusedSimpArgs false
set_option linter.unusedSectionVars false
def okD (d : DoE) : Prop := d.kind ≤ 255 ∧ d.state.size ≤ maxLen ∧ d.note.size ≤ maxLen
def doCells (d : DoE) : List Value := [.int .u8 (d.kind : Int), .int .i64 d.n, .int .i64 d.m, .string d.state, .string d.note]
def dosFlat (ds : List DoE) : List Value := ds.flatMap doCells
theorem dosFlat_length : ∀ xs : List DoE, (dosFlat xs).length = xs.length * 5
  | [] => rfl
  | x :: xs => by
    show (doCells x ++ dosFlat xs).length = _
    rw [List.length_append, dosFlat_length xs, List.length_cons]
    simp [doCells]
    omega
theorem dosFlat_append (xs ys : List DoE) : dosFlat (xs ++ ys) = dosFlat xs ++ dosFlat ys := by simp [dosFlat]
theorem dosFlat_get : ∀ (xs : List DoE) (i j : Nat) (x : DoE), xs[i]? = some x → j < 5 → (dosFlat xs)[i * 5 + j]? = (doCells x)[j]?
  | [], _, _, _, h, _ => by simp at h
  | y :: ys, 0, j, x, h, hj => by
    obtain rfl : y = x := by simpa using h
    show (doCells y ++ dosFlat ys)[0 * 5 + j]? = _
    rw [List.getElem?_append_left (by simp [doCells]; omega)]
    simp
  | y :: ys, i + 1, j, x, h, hj => by
    show (doCells y ++ dosFlat ys)[(i + 1) * 5 + j]? = _
    rw [List.getElem?_append_right (by simp [doCells]; omega)]
    have := dosFlat_get ys i j x (by simpa using h) hj
    rw [← this]
    congr 1
    simp [doCells]
    omega
theorem dos_one (ds : List DoE) : ∀ u ∈ dosFlat ds, u.oneCell' = true := by
  intro u hu
  unfold dosFlat at hu
  obtain ⟨x, _, hx⟩ := List.mem_flatMap.1 hu
  simp only [doCells, List.mem_cons, List.not_mem_nil, or_false] at hx
  rcases hx with rfl | rfl | rfl | rfl | rfl <;> simp [Value.oneCell']
theorem info74 : (Try.prog.info? 74).map (fun i => (i.zero, i.size, i.bytes)) = some (some (.agg #[.int .u8 0, .int .i64 0, .int .i64 0, .string ⟨#[]⟩, .string ⟨#[]⟩]), 5, 56) := by kernel_rfl
theorem elem59 : ElemOk Try.prog 59 74 5 56 := .mk' Try.underlying59 info74 rfl (by omega)
def dE0 : DoE := ⟨0, 0, 0, ⟨#[]⟩, ⟨#[]⟩⟩
/-- A script whose cells are known. -/
theorem dosv_of {w : World} {g n : Nat} {ds : List DoE} (hn : ds.length = n) (hc : ∀ j u, (dosFlat ds)[j]? = some u → w.cell? ⟨g, j, none⟩ = some u) (hok : ∀ d ∈ ds, okD d) : DosV w (some ⟨g, 0, none⟩) n (fun i => ds.getD i dE0) := by
  intro i hi
  obtain ⟨x, hx⟩ : ∃ x, ds[i]? = some x := ⟨_, List.getElem?_eq_getElem (by omega)⟩
  have hg : ds.getD i dE0 = x := by rw [List.getD_eq_getElem?_getD, hx]; rfl
  have ho := hok x (List.mem_of_getElem? hx)
  have hj : ∀ j u, j < 5 → (doCells x)[j]? = some u → w.cell? ⟨g, i * 5 + j, none⟩ = some u := fun j u hj hu => hc _ u (by rw [dosFlat_get ds i j x hx hj]; exact hu)
  simp only [hg]
  refine ⟨_, rfl, ?_, ?_, ?_, ?_, ?_, ho⟩
  · rw [addr_add0]; exact hj 0 _ (by omega) rfl
  · simp only [addr_add0]; exact hj 1 _ (by omega) rfl
  · simp only [addr_add0]; exact hj 2 _ (by omega) rfl
  · simp only [addr_add0]; exact hj 3 _ (by omega) rfl
  · simp only [addr_add0]; exact hj 4 _ (by omega) rfl
theorem tells_ds {w : World} {g n c : Nat} {ds : List DoE} (begin : ByteArray) (hm : begin.size ≤ maxLen) (hn : ds.length = n) (hle : n ≤ 40) (hc : ∀ j u, (dosFlat ds)[j]? = some u → w.cell? ⟨g, j, none⟩ = some u) (hok : ∀ d ∈ ds, okD d) : Calls Try.prog 28 #[.string begin, .slice (some ⟨g, 0, none⟩) n c] w (RetTr w) :=
  tells_any w begin hm _ n c _ (dosv_of hn hc hok) hle
theorem tells_none (w : World) (begin : ByteArray) (hm : begin.size ≤ maxLen) : Calls Try.prog 28 #[.string begin, .slice none 0 0] w (RetTr w) :=
  tells_any w begin hm none 0 0 (fun _ => dE0) (fun i hi => absurd hi (Nat.not_lt_zero i)) (by omega)
def okN (d : Ent) : Prop := d.state.size ≤ maxLen ∧ d.note.size ≤ maxLen
theorem opens_es {w : World} {g n c : Nat} {es : List Ent} (now : Int) (hn : es.length = n) (hle : n ≤ 100000) (hc : ∀ j u, (entsFlat es)[j]? = some u → w.cell? ⟨g, j, none⟩ = some u) (hok : ∀ d ∈ es, okN d) : Calls Try.prog 9 #[.slice (some ⟨g, 0, none⟩) n c, .int .i64 now] w (RetTr w) := by
  refine historyopens_walk w _ n c (by omega) (.inr ⟨_, es, rfl, hn, fun i x hx => ?_, fun j y hy => hok y (List.mem_of_getElem? hy)⟩) now
  have hj : ∀ j u, j < 4 → (entCells x)[j]? = some u → w.cell? ⟨g, i * 4 + j, none⟩ = some u := fun j u hj hu => hc _ u (by rw [entsFlat_get es i j x hx hj]; exact hu)
  simp only [addr_add0]
  exact ⟨hj 0 _ (by omega) rfl, hj 1 _ (by omega) rfl, hj 2 _ (by omega) rfl, hj 3 _ (by omega) rfl⟩
theorem opens_none (w : World) (now : Int) : Calls Try.prog 9 #[.slice none 0 0, .int .i64 now] w (RetTr w) :=
  historyopens_walk w none 0 0 (by omega) (.inl ⟨rfl, rfl, rfl⟩) now
end Go.Proofs.Ythneinepdbkgeaa
namespace Go.Proofs.Ythneinepdbkgeaa
open Go.RowKit Go.HK
set_option linter.unusedVariables false
set_option linter.unusedSimpArgs false
set_option linter.unusedSectionVars false
def zD : Value := .agg #[.int .u8 0, .int .i64 0, .int .i64 0, .string ⟨#[]⟩, .string ⟨#[]⟩]
set_option maxRecDepth 100000 in
set_option maxHeartbeats 1000000 in
theorem fill6 (y0 y1 y2 y3 y4 y5 : DoE) : Instr.fill (fun i => some (i * 5, 5)) ((Array.range (6 * 5)).map (zD.cells[· % zD.cells.size]!)) [(0, .agg (doCells y0).toArray), (1, .agg (doCells y1).toArray), (2, .agg (doCells y2).toArray), (3, .agg (doCells y3).toArray), (4, .agg (doCells y4).toArray), (5, .agg (doCells y5).toArray)] = some (dosFlat [y0, y1, y2, y3, y4, y5]).toArray := by
  kernel_rfl
theorem wp_six {o : Oper} {a : Act} {w : World} {K : Act → World → Prop} {Q : Exit → Act → World → Prop} (t0 t1 t2 t3 t4 t5 : Nat) (y0 y1 y2 y3 y4 y5 : DoE) (ho : o.op = .buildSlice 59 6 #[(0, .tmp t0), (1, .tmp t1), (2, .tmp t2), (3, .tmp t3), (4, .tmp t4), (5, .tmp t5)])
    (h0 : a.eval (.tmp t0) = .agg (doCells y0).toArray) (h1 : a.eval (.tmp t1) = .agg (doCells y1).toArray) (h2 : a.eval (.tmp t2) = .agg (doCells y2).toArray) (h3 : a.eval (.tmp t3) = .agg (doCells y3).toArray) (h4 : a.eval (.tmp t4) = .agg (doCells y4).toArray) (h5 : a.eval (.tmp t5) = .agg (doCells y5).toArray)
    (h : K (a.put o.dst (.slice (some ⟨w.heap.size, 0, none⟩) 6 6)) (w.alloc (.cells (dosFlat [y0, y1, y2, y3, y4, y5]).toArray 74))) : o.wp Try.prog a w K Q := by
  obtain ⟨ie, hi, hz, hs, _⟩ := info_parts info74
  refine wp_buildSlice 59 74 6 _ ho _ ie zD Try.underlying59 hi hz (by rw [hs]; decide) (by rw [hs]; decide) ?_ h
  rw [hs]
  simp only [List.map_toArray, List.map_cons, List.map_nil, h0, h1, h2, h3, h4, h5]
  exact fill6 y0 y1 y2 y3 y4 y5
theorem info5s : (Try.prog.info? 5).map (fun i => (i.zero, i.size, i.bytes)) = some (some (.int .u8 0), 1, 1) := by kernel_rfl
/-- The string of N zero bytes. -/
def zerosS (N : Nat) : ByteArray := strOfNums (List.replicate N 0)
theorem zerosS_size (N : Nat) : (zerosS N).size = N := by
  simp [zerosS, strOfNums, ByteArray.size]
theorem zerosS_make (N : Nat) (hN : N ≤ 20000) (w : World) : (Instr.makeSlice 75 (.int .i64 (N : Int)) (.int .i64 (N : Int))).run Try.prog w = .ok (.slice (some ⟨w.heap.size, 0, none⟩) N N) (w.alloc (.cells (madeCells #[.int .u8 0] N) 5)) :=
  run_make_row' 75 5 (.int .u8 0) 1 Try.underlying75 info5s rfl .i64 .i64 N (by omega) (by omega) w
theorem zerosS_conv (N : Nat) (w : World) : (convert 75 9 (.slice (some ⟨w.heap.size, 0, none⟩) N N)).run Try.prog (w.alloc (.cells (madeCells #[.int .u8 0] N) 5)) = .ok (.string (zerosS N)) (w.alloc (.cells (madeCells #[.int .u8 0] N) 5)) := by
  refine run_convert_bytes_arg _ 75 5 Try.underlying75 Try.underlying5 _ 0 N N (List.replicate N 0) (by simp) (fun i hi => ?_) 9 Try.underlying9
  rw [blk_cell (blk_new w _)]
  simp [madeCells, hi, Nat.mod_one, List.getD]
/-- tells at a script that was laid just now. -/
theorem tells_new (W : World) (begin : ByteArray) (hm : begin.size ≤ maxLen) (ds : List DoE) (n : Nat) (hn : ds.length = n) (hle : n ≤ 40) (hok : ∀ d ∈ ds, okD d) : Calls Try.prog 28 #[.string begin, .slice (some ⟨W.heap.size, 0, none⟩) n n] (W.alloc (.cells (dosFlat ds).toArray 74)) (RetTr (W.alloc (.cells (dosFlat ds).toArray 74))) :=
  tells_ds begin hm hn hle (fun j u hj => by rw [HK.blk_cell (HK.blk_new _ _), List.getElem?_toArray]; exact hj) hok
def lngD (LS : ByteArray) : List DoE := [⟨0, 0, 0, LS, ⟨#[]⟩⟩, ⟨0, 0, 0, LS ++ ⟨#[120]⟩, ⟨#[]⟩⟩, ⟨0, 0, 0, ⟨#[120]⟩, LS.extract 0 100⟩, ⟨0, -1, 0, ⟨#[121]⟩, LS.extract 0 100 ++ ⟨#[120]⟩⟩, ⟨0, 4611686018427387904, 0, LS, ⟨#[]⟩⟩, ⟨0, 1, 0, ⟨#[122]⟩, ⟨#[]⟩⟩, ⟨6, 0, 2, ⟨#[]⟩, ⟨#[]⟩⟩]
theorem lng_ok (LS : ByteArray) (h : LS.size = 16384) : ∀ d ∈ lngD LS, okD d := by
  have e0 : (⟨#[]⟩ : ByteArray).size = 0 := by decide
  have e1 : (⟨#[120]⟩ : ByteArray).size = 1 := by decide
  have e2 : (⟨#[121]⟩ : ByteArray).size = 1 := by decide
  have e3 : (⟨#[122]⟩ : ByteArray).size = 1 := by decide
  have hx : (LS.extract 0 100).size = 100 := by rw [ByteArray.size_extract]; omega
  intro d hd
  simp only [lngD, List.mem_cons, List.not_mem_nil, or_false] at hd
  rcases hd with rfl | rfl | rfl | rfl | rfl | rfl | rfl <;> (simp only [okD, ByteArray.size_append, h, hx, e0, e1, e2, e3, maxLen]; omega)
def shrD : List DoE := [⟨0, -1, 0, ⟨#[]⟩, ⟨#[]⟩⟩, ⟨0, -1, 0, ⟨#[120]⟩, ⟨#[]⟩⟩, ⟨0, 0, 0, ⟨#[]⟩, ⟨#[]⟩⟩, ⟨2, 0, 0, ⟨#[]⟩, ⟨#[]⟩⟩, ⟨2, 0, 0, ⟨#[]⟩, ⟨#[]⟩⟩, ⟨5, -1, 0, ⟨#[]⟩, ⟨#[]⟩⟩]
theorem shr_ok : ∀ d ∈ shrD, okD d := by
  intro d hd
  simp only [shrD, List.mem_cons, List.not_mem_nil, or_false] at hd
  rcases hd with rfl | rfl | rfl | rfl | rfl | rfl <;> exact ⟨by decide, by decide, by decide⟩
/-- HistoryOpens at entries that were laid just now. -/
theorem opens_new (W : World) (now : Int) (es : List Ent) (n : Nat) (hn : es.length = n) (hle : n ≤ 100000) (hok : ∀ d ∈ es, okN d) : Calls Try.prog 9 #[.slice (some ⟨W.heap.size, 0, none⟩) n n, .int .i64 now] (W.alloc (.cells (entsFlat es).toArray 45)) (RetTr (W.alloc (.cells (entsFlat es).toArray 45))) :=
  opens_es now hn hle (fun j u hj => by rw [HK.blk_cell (HK.blk_new _ _), List.getElem?_toArray]; exact hj) hok
def treD (p q : Int) : List Ent := [⟨-1, 0, ⟨#[]⟩, ⟨#[97]⟩⟩, ⟨0, 0, ⟨#[]⟩, ⟨#[98]⟩⟩, ⟨p, 0, ⟨#[]⟩, ⟨#[99]⟩⟩, ⟨q, 0, ⟨#[]⟩, ⟨#[100]⟩⟩]
theorem tre_ok (p q : Int) : ∀ d ∈ treD p q, okN d := by
  intro d hd
  simp only [treD, List.mem_cons, List.not_mem_nil, or_false] at hd
  rcases hd with rfl | rfl | rfl | rfl
  · exact ⟨(show (⟨#[97]⟩ : ByteArray).size ≤ maxLen by decide), (show (⟨#[]⟩ : ByteArray).size ≤ maxLen by decide)⟩
  · exact ⟨(show (⟨#[98]⟩ : ByteArray).size ≤ maxLen by decide), (show (⟨#[]⟩ : ByteArray).size ≤ maxLen by decide)⟩
  · exact ⟨(show (⟨#[99]⟩ : ByteArray).size ≤ maxLen by decide), (show (⟨#[]⟩ : ByteArray).size ≤ maxLen by decide)⟩
  · exact ⟨(show (⟨#[100]⟩ : ByteArray).size ≤ maxLen by decide), (show (⟨#[]⟩ : ByteArray).size ≤ maxLen by decide)⟩
end Go.Proofs.Ythneinepdbkgeaa
namespace Go.Proofs.Ythneinepdbkgeaa
open Go.RowKit Go.HK
set_option linter.unusedVariables false
set_option linter.unusedSimpArgs false
set_option linter.unusedSectionVars false
/-- The good entries. -/
def gudE : List Ent := [⟨-1, 0, ⟨#[]⟩, ⟨#[97]⟩⟩, ⟨0, 2, ⟨#[110]⟩, ⟨#[98]⟩⟩, ⟨1, 2, ⟨#[]⟩, ⟨#[97]⟩⟩, ⟨0, 1, ⟨#[]⟩, ⟨#[99]⟩⟩]
theorem sz_of (a : Array UInt8) : (⟨a⟩ : ByteArray).size = a.size := rfl
theorem gud_ok : ∀ d ∈ gudE, okN d := by
  intro d hd
  simp only [gudE, List.mem_cons, List.not_mem_nil, or_false] at hd
  rcases hd with rfl | rfl | rfl | rfl <;> exact ⟨by decide, by decide⟩
/-- What a round of the third loop hands on. -/
def SwE (w wx : World) (l nw : Value) : Prop := ∃ now : Int, nw = .int .i64 now ∧ Below w.heap.size w wx ∧ (l = .slice none 0 0 ∨ ∃ g c es, l = .slice (some ⟨g, 0, none⟩) 4 c ∧ es.length = 4 ∧ (∀ d ∈ es, okN d) ∧ ∀ j u, (entsFlat es)[j]? = some u → wx.cell? ⟨g, j, none⟩ = some u)
theorem cells_own {w : World} {b g c : Nat} {es : List Ent} {n : Nat} (h : w.ownsRow b 45 4 (.slice (some ⟨g, 0, none⟩) n c) n (entsFlat es)) : ∀ j u, (entsFlat es)[j]? = some u → w.cell? ⟨g, j, none⟩ = some u := by
  intro j u hj
  have hl := h.1
  have hlt := (List.getElem?_eq_some_iff.1 hj).1
  rw [h.cellAt j (by rw [hl] at hlt; exact hlt)]
  exact hj
theorem swe_stay {w wx : World} {g c : Nat} {es : List Ent} {now : Int} (hB : Below w.heap.size w wx) (ho : wx.ownsRow w.heap.size 45 4 (.slice (some ⟨g, 0, none⟩) 4 c) 4 (entsFlat es)) (hl : es.length = 4) (hok : ∀ d ∈ es, okN d) : SwE w wx (.slice (some ⟨g, 0, none⟩) 4 c) (.int .i64 now) :=
  ⟨now, rfl, hB, .inr ⟨g, c, es, rfl, hl, hok, cells_own ho⟩⟩
theorem swe_set {w wx : World} {g c : Nat} {es es' : List Ent} {now : Int} (j : Nat) (u : Value) (hB : Below w.heap.size w wx) (hg : w.heap.size ≤ g) (ho : wx.ownsRow w.heap.size 45 4 (.slice (some ⟨g, 0, none⟩) 4 c) 4 (entsFlat es)) (he : (entsFlat es).set j u = entsFlat es') (hl : es'.length = 4) (hok : ∀ d ∈ es', okN d) : SwE w (wx.setCell ⟨g, j, none⟩ u) (.slice (some ⟨g, 0, none⟩) 4 c) (.int .i64 now) := by
  have h2 := (ho.stored j u).1
  rw [he] at h2
  exact swe_stay (hB.setCell hg u) h2 hl hok
theorem swe_nil {w wx : World} {now : Int} (hB : Below w.heap.size w wx) : SwE w wx (.slice none 0 0) (.int .i64 now) := ⟨now, rfl, hB, .inl rfl⟩
theorem swe_call {w wx : World} {l nw : Value} (h : SwE w wx l nw) : Calls Try.prog 9 #[l, nw] wx (RetTr wx) := by
  obtain ⟨now, rfl, _, rfl | ⟨g, c, es, rfl, hl, hok, hc⟩⟩ := h
  · exact opens_none wx now
  · exact opens_es now hl (by omega) hc hok
theorem SwE.below {w wx : World} {l nw : Value} (h : SwE w wx l nw) : Below w.heap.size w wx := h.choose_spec.2.1
/-- okN of lists like gudE in which texts are short. -/
theorem ok4 {y0 y1 y2 y3 : Ent} (h0 : okN y0) (h1 : okN y1) (h2 : okN y2) (h3 : okN y3) : ∀ d ∈ [y0, y1, y2, y3], okN d := by
  intro d hd
  simp only [List.mem_cons, List.not_mem_nil, or_false] at hd
  rcases hd with rfl | rfl | rfl | rfl <;> assumption
/-! ### a thousand entries -/
def stK (k : Nat) : ByteArray := if k % 2 = 0 then ⟨#[97]⟩ else ⟨#[98]⟩
def entK (k : Nat) : Ent := if k = 0 then ⟨-1, 0, ⟨#[]⟩, ⟨#[]⟩⟩ else ⟨(k : Int) - 1, 0, ⟨#[]⟩, stK k⟩
def manyL (n : Nat) : List Ent := (List.range n).map entK
theorem many_len (n : Nat) : (manyL n).length = n := by simp [manyL]
theorem many_get {n k : Nat} (h : k < n) : (manyL n)[k]? = some (entK k) := by simp [manyL, h]
theorem many_succ (n : Nat) : manyL (n + 1) = manyL n ++ [entK n] := by simp [manyL, List.range_succ]
theorem stK_size (k : Nat) : (stK k).size = 1 := by unfold stK; split <;> rfl
theorem entK_short (k : Nat) : (entK k).state.size ≤ 1 ∧ (entK k).note.size ≤ 0 := by
  unfold entK
  split
  · exact ⟨by decide, by decide⟩
  · exact ⟨by rw [stK_size]; exact Nat.le_refl _, (show (⟨#[]⟩ : ByteArray).size ≤ 0 by decide)⟩
theorem entK_ok (k : Nat) : okN (entK k) := by
  have h := entK_short k
  exact ⟨by have := h.1; simp only [maxLen]; omega, by have := h.2; simp only [maxLen]; omega⟩
theorem many_ok (n : Nat) : ∀ d ∈ manyL n, okN d := by
  intro d hd
  simp only [manyL, List.mem_map] at hd
  obtain ⟨k, _, rfl⟩ := hd
  exact entK_ok k
theorem stK_ne (k : Nat) : stK (k + 1) ≠ stK k := by
  unfold stK
  by_cases h : k % 2 = 0
  · rw [if_pos h, if_neg (by omega)]; decide
  · rw [if_neg h, if_pos (by omega)]; decide
theorem many_right : Right (manyL 1000) 999 := by
  refine ⟨by decide, by rw [many_len]; decide, ?_⟩
  intro j x hx
  have hj : j < 1000 := by have := (List.getElem?_eq_some_iff.1 hx).1; rwa [many_len] at this
  rw [many_get hj] at hx
  obtain rfl := Option.some.inj hx
  unfold okAt
  by_cases h0 : j = 0
  · rw [if_pos h0]; subst h0; exact ⟨rfl, rfl, rfl⟩
  · rw [if_neg h0]
    obtain ⟨i, rfl⟩ : ∃ i, j = i + 1 := ⟨j - 1, by omega⟩
    have hp : (entK (i + 1)).par = (i : Int) := by unfold entK; rw [if_neg h0]; simp
    have ht : (entK (i + 1)).tick = 0 := by unfold entK; rw [if_neg h0]
    have hs : (entK (i + 1)).state = stK (i + 1) := by unfold entK; rw [if_neg h0]
    rw [hp]
    refine ⟨by omega, by omega, entK i, ?_, ?_, ?_⟩
    · rw [Int.toNat_natCast]; exact many_get (by omega)
    · rw [ht]; unfold entK; split <;> simp
    · rw [hs]
      unfold entK
      split
      · intro e
        have := congrArg ByteArray.size e
        rw [stK_size] at this
        exact absurd this (by decide)
      · exact stK_ne i
theorem many_short : Short (manyL 1000) := by
  intro j x hx
  have hj : j < 1000 := by have := (List.getElem?_eq_some_iff.1 hx).1; rwa [many_len] at this
  rw [many_get hj] at hx
  obtain rfl := Option.some.inj hx
  have h := entK_short j
  exact ⟨by omega, by omega⟩
/-- The tree of the thousand: the present one is the last. -/
theorem many_do : doR (openN (manyL 1000) 999) 999 ⟨#[122]⟩ ⟨#[]⟩ 0 = some 4 ∧ doR (openN (manyL 1000) 999) 999 ⟨#[122]⟩ ⟨#[]⟩ (-1) = some 2 := by
  have hat := addAll_take many_right (by rw [many_len]; omega) (manyL 1000).length (Nat.le_refl _)
  rw [List.take_length] at hat
  have he : ents (openN (manyL 1000) 999) = manyL 1000 := by unfold openN; rw [ents_lead]; exact hat.1
  have hl : (openN (manyL 1000) 999).length = 1000 := by unfold openN; rw [lead_length, hat.2.1, many_len]
  obtain ⟨N, hN⟩ : ∃ N, N = openN (manyL 1000) 999 := ⟨_, rfl⟩
  obtain ⟨M, hM⟩ : ∃ M, M = manyL 1000 := ⟨_, rfl⟩
  have hm : (manyL 1000)[999]? = some (entK 999) := many_get (by omega)
  rw [← hM] at hm
  rw [← hN] at he hl ⊢
  rw [← hM] at he
  clear hat hN hM
  obtain ⟨x, hx⟩ : ∃ x, N[999]? = some x := ⟨_, List.getElem?_eq_getElem (by omega)⟩
  rw [← he, ents, List.getElem?_map, hx] at hm
  have hg : x.ent = entK 999 := Option.some.inj hm
  have ht : tickF N 999 = 0 := by rw [tickF_get hx]; exact (congrArg Ent.tick hg)
  have hs : stateF N 999 = ⟨#[98]⟩ := by rw [stateF_get hx]; exact (congrArg Ent.state hg)
  unfold doR
  rw [ht, hs, hl]
  have a1 : ¬ ((0 : Int) < 0) := by omega
  have a2 : ¬ ((⟨#[122]⟩ : ByteArray) = ⟨#[98]⟩) := by decide
  have a3 : (1000 : Nat) ≤ 1000 := Nat.le_refl _
  have a4 : (-1 : Int) < 0 := by omega
  constructor
  · simp only [if_neg a1, if_neg a2, if_pos a3]
  · simp only [if_pos a4]
section
variable {P : Program} {w : World} {ops : Array Oper} {o : Oper} {a : Act} {Q : Exit → Act → World → Prop}
/-- wpList_app1 at an operation whose guard lets it through. -/
theorem wpList_app1h {rest : List Oper} (hw : Region.wanted o (yielded ops a.tmps) = true) {t e size bytes : Nat} (E : ElemOk P t e size bytes) (s x : Operand)
    (ho : o.op = .call { callee := .builtin .append, args := #[s, x], argTypes := #[t, t] }) (v : Value) (n : Nat) (xs : List Value) (hs : a.eval s = v) (hown : w.ownsRow 0 e size v n xs)
    (B c : Nat) (news : Array Value) (hx : a.eval x = .slice (some ⟨B, 0, none⟩) 1 c) (hB : w.heap[B]? = some (.cells news e (0, 0))) (hl : news.size = size) (h1 : ∀ u ∈ news.toList, u.oneCell' = true)
    (h63 : n + 1 ≤ maxLen) (hbytes : (n + 1) * bytes ≤ 140737488355328)
    (h : ∀ g cap w', w'.ownsRow 0 e size (.slice (some ⟨g, 0, none⟩) (n + 1) cap) (n + 1) (xs ++ news.toList) → w.grownBy w' v.ownBlock → (v.ownBlock = some g ∨ g = w.heap.size) → g < w'.heap.size → wpList P ops Q rest (a.put o.dst (.slice (some ⟨g, 0, none⟩) (n + 1) cap)) w') : wpList P ops Q (o :: rest) a w :=
  wpList_step fun K hK => by
    rw [if_pos hw]
    exact wp_app1 E s x ho v n xs hs hown B c news hx hB hl h1 h63 hbytes fun g cap w' h2 h3 h4 h5 => hK _ _ (h g cap w' h2 h3 h4 h5)
end
/-- The loop over the thousand: the row so far. -/
def ManI (w : World) (k : Nat) (l : Value) (wr : World) : Prop := ∃ g c, l = .slice (some ⟨g, 0, none⟩) k c ∧ wr.ownsRow w.heap.size 45 4 (.slice (some ⟨g, 0, none⟩) k c) k (entsFlat (manyL k)) ∧ Below w.heap.size w wr
theorem ent_cells (k : Nat) (h : 1 ≤ k) : entsFlat [entK k] = [.int .i64 ((k : Int) - 1), .int .i64 0, .string ⟨#[]⟩, .string (stK k)] := by
  simp only [entsFlat, List.flatMap_cons, List.flatMap_nil, List.append_nil, entCells]
  unfold entK
  rw [if_neg (by omega)]
theorem many_next {w w4 w5 : World} {k g c : Nat} {v : Value} (h : w5.ownsRow w.heap.size 45 4 v (k + 1) (entsFlat (manyL k) ++ entsFlat [entK k])) (hb : Below w.heap.size w w5) : ManI w (k + 1) v w5 := by
  rw [← entsFlat_append, ← many_succ] at h
  obtain ⟨g, c, rfl, _⟩ := own_form9 h (by omega)
  exact ⟨g, c, rfl, h, hb⟩
end Go.Proofs.Ythneinepdbkgeaa
