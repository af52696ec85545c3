/- The walks of copyProof and of what it calls, at proofs without formulas and marks. -/
import Derived.Test.YtfebcpmbkljaoaaMeaY
namespace Go.Proofs.Ytfebcpmbkljaoaa
open Go.RowKit Go.HR
set_option linter.unusedVariables false
set_option linter.unusedSimpArgs false
set_option linter.unusedSectionVars false
/-! ### eight cells stored into a row -/
def put8 (cur : Array Value) (o : Nat) (v0 v1 v2 v3 v4 v5 v6 v7 : Value) : Array Value := ((((((((cur.setIfInBounds o v0).setIfInBounds (o + 1) v1).setIfInBounds (o + 2) v2).setIfInBounds (o + 3) v3).setIfInBounds (o + 4) v4).setIfInBounds (o + 5) v5).setIfInBounds (o + 6) v6).setIfInBounds (o + 7) v7)
theorem put8_size (cur : Array Value) (o : Nat) (v0 v1 v2 v3 v4 v5 v6 v7 : Value) : (put8 cur o v0 v1 v2 v3 v4 v5 v6 v7).size = cur.size := by simp [put8]
theorem put8_in {cur : Array Value} {o : Nat} (h : o + 8 ≤ cur.size) (v0 v1 v2 v3 v4 v5 v6 v7 : Value) {j : Nat} {v : Value} (hj : [v0, v1, v2, v3, v4, v5, v6, v7][j]? = some v) : (put8 cur o v0 v1 v2 v3 v4 v5 v6 v7)[o + j]? = some v := by
  have hl : j < 8 := (List.getElem?_eq_some_iff.1 hj).1
  have h0 : o < cur.size := by omega
  have h1 : o + 1 < cur.size := by omega
  have h2 : o + 2 < cur.size := by omega
  have h3 : o + 3 < cur.size := by omega
  have h4 : o + 4 < cur.size := by omega
  have h5 : o + 5 < cur.size := by omega
  have h6 : o + 6 < cur.size := by omega
  have h7 : o + 7 < cur.size := by omega
  match j, hj, hl with
  | 0, hj, _ => simp at hj; subst hj; simp [put8, Array.getElem?_setIfInBounds, h0]
  | 1, hj, _ => simp at hj; subst hj; simp [put8, Array.getElem?_setIfInBounds, h1]
  | 2, hj, _ => simp at hj; subst hj; simp [put8, Array.getElem?_setIfInBounds, h2]
  | 3, hj, _ => simp at hj; subst hj; simp [put8, Array.getElem?_setIfInBounds, h3]
  | 4, hj, _ => simp at hj; subst hj; simp [put8, Array.getElem?_setIfInBounds, h4]
  | 5, hj, _ => simp at hj; subst hj; simp [put8, Array.getElem?_setIfInBounds, h5]
  | 6, hj, _ => simp at hj; subst hj; simp [put8, Array.getElem?_setIfInBounds, h6]
  | 7, hj, _ => simp at hj; subst hj; simp [put8, Array.getElem?_setIfInBounds, h7]
theorem put8_out {cur : Array Value} {o m : Nat} (h : m < o ∨ o + 8 ≤ m) (v0 v1 v2 v3 v4 v5 v6 v7 : Value) : (put8 cur o v0 v1 v2 v3 v4 v5 v6 v7)[m]? = cur[m]? := by
  simp only [put8, Array.getElem?_setIfInBounds]
  rw [if_neg (by omega), if_neg (by omega), if_neg (by omega), if_neg (by omega), if_neg (by omega), if_neg (by omega), if_neg (by omega), if_neg (by omega)]
theorem set8at {W : World} {R t o : Nat} {cur : Array Value} (h : W.heap[R]? = some (.cells cur t (0, 0))) (v0 v1 v2 v3 v4 v5 v6 v7 : Value) :
    ((((((((W.setCell ⟨R, o, none⟩ v0).setCell ⟨R, o + 1, none⟩ v1).setCell ⟨R, o + 2, none⟩ v2).setCell ⟨R, o + 3, none⟩ v3).setCell ⟨R, o + 4, none⟩ v4).setCell ⟨R, o + 5, none⟩ v5).setCell ⟨R, o + 6, none⟩ v6).setCell ⟨R, o + 7, none⟩ v7).heap[R]? = some (.cells (put8 cur o v0 v1 v2 v3 v4 v5 v6 v7) t (0, 0)) := (HK.blk_set (HK.blk_set (HK.blk_set (HK.blk_set (HK.blk_set (HK.blk_set (HK.blk_set (HK.blk_set h _ _) _ _) _ _) _ _) _ _) _ _) _ _) _ _)
theorem set8at_frm (W : World) (R o : Nat) (v0 v1 v2 v3 v4 v5 v6 v7 : Value) : HK.Frm (· = R) W ((((((((W.setCell ⟨R, o, none⟩ v0).setCell ⟨R, o + 1, none⟩ v1).setCell ⟨R, o + 2, none⟩ v2).setCell ⟨R, o + 3, none⟩ v3).setCell ⟨R, o + 4, none⟩ v4).setCell ⟨R, o + 5, none⟩ v5).setCell ⟨R, o + 6, none⟩ v6).setCell ⟨R, o + 7, none⟩ v7) := (HK.Frm.setCell (p := ⟨R, o + 7, none⟩) (HK.Frm.setCell (p := ⟨R, o + 6, none⟩) (HK.Frm.setCell (p := ⟨R, o + 5, none⟩) (HK.Frm.setCell (p := ⟨R, o + 4, none⟩) (HK.Frm.setCell (p := ⟨R, o + 3, none⟩) (HK.Frm.setCell (p := ⟨R, o + 2, none⟩) (HK.Frm.setCell (p := ⟨R, o + 1, none⟩) (HK.Frm.setCell (p := ⟨R, o, none⟩) (HK.Frm.refl (· = R) W) (.inl rfl) _) (.inl rfl) _) (.inl rfl) _) (.inl rfl) _) (.inl rfl) _) (.inl rfl) _) (.inl rfl) _) (.inl rfl) _)
/-- A row of proofs, so far as it is filled. -/
def RowFill (cur : Array Value) (xs : List (PT × SL)) : Prop := ∀ (i : Nat) x, xs[i]? = some x → ∀ (j : Nat) v, (x.1.vals x.2)[j]? = some v → cur[i * 8 + j]? = some v
theorem RowFill.put {cur : Array Value} {xs : List (PT × SL)} (h : RowFill cur xs) (hl : xs.length * 8 + 8 ≤ cur.size) (t : PT) (sv : SL) {v0 v1 v2 v3 v4 v5 v6 v7 : Value} (hv : t.vals sv = [v0, v1, v2, v3, v4, v5, v6, v7]) :
    RowFill (put8 cur (xs.length * 8) v0 v1 v2 v3 v4 v5 v6 v7) (xs ++ [(t, sv)]) := by
  intro i x hx j v hj
  have hj8 : j < 8 := (List.getElem?_eq_some_iff.1 hj).1
  by_cases hi : i < xs.length
  · rw [List.getElem?_append_left hi] at hx
    rw [put8_out (by omega)]
    exact h i x hx j v hj
  · rw [List.getElem?_append_right (by omega)] at hx
    have hi0 : i - xs.length = 0 := by
      have := (List.getElem?_eq_some_iff.1 hx).1
      simp at this; omega
    rw [hi0] at hx
    simp only [List.getElem?_cons_zero, Option.some.injEq] at hx
    subst hx
    rw [show i = xs.length by omega]
    rw [hv] at hj
    exact put8_in hl _ _ _ _ _ _ _ _ hj
/-- A row that is filled. -/
theorem fill_pq {S : Nat → Prop} {W : World} {R n c : Nat} {cur : Array Value} {xs : List (PT × SL)} (h : W.heap[R]? = some (.cells cur 30 (0, 0))) (hf : RowFill cur xs) (hn : n = xs.length) (hS : S R) (hs : ∀ x ∈ xs, IsPq S W x.2 x.1.subs) : IsPq S W ⟨some ⟨R, 0, none⟩, n, c⟩ (xs.map (·.1)) := by
  have hn2 : n = (xs.map (·.1)).length := by simp [hn]
  subst hn2
  refine .row R 0 c (xs.map (·.1)) (fun i => ((xs[i]?).map (·.2)).getD SL.nil) hS (fun i t ht j v hv => ?_) (fun i t ht => ?_)
  · rw [List.getElem?_map] at ht
    obtain ⟨x, hx, rfl⟩ := Option.map_eq_some_iff.1 ht
    simp only [hx, Option.map_some, Option.getD_some] at hv
    rw [HK.blk_cell h, show 0 + i * 8 + j = i * 8 + j by omega]
    exact hf i x hx j v hv
  · rw [List.getElem?_map] at ht
    obtain ⟨x, hx, rfl⟩ := Option.map_eq_some_iff.1 ht
    simp only [hx, Option.map_some, Option.getD_some]
    exact hs x (List.mem_of_getElem? hx)
/-! ### proofs without formulas and marks -/
mutual
def plainT : PT → Prop
  | .node _ o s => o.args = SL.nil ∧ o.fsub = SL.nil ∧ o.marks = SL.nil ∧ plainF s
def plainF : List PT → Prop
  | [] => True
  | t :: ts => plainT t ∧ plainF ts
end
theorem plainT_eq (t : PT) : plainT t ↔ t.o.args = SL.nil ∧ t.o.fsub = SL.nil ∧ t.o.marks = SL.nil ∧ plainF t.subs := by
  cases t; simp only [plainT, PT.o, PT.subs]
theorem plainF_iff (ts : List PT) : plainF ts ↔ ∀ t ∈ ts, plainT t := by
  induction ts with
  | nil => simp [plainF]
  | cons t ts ih => simp [plainF, ih]
theorem plain_hole : plainT holeT := ⟨rfl, rfl, rfl, trivial⟩
theorem plain_leaf (n : Nat) : plainT (leafT n) := ⟨rfl, rfl, rfl, trivial⟩
theorem mkT_plain (L : List Nat) : ∀ f i, plainT (mkT L f i).1 := by
  intro f
  induction f with
  | zero =>
    intro i
    rcases mkT_cases L 0 i with h | ⟨h0, h⟩ | ⟨h0, n, h⟩ | ⟨h0, f', k, hf, _⟩
    · rw [h]; exact plain_hole
    · rw [h]; exact plain_hole
    · rw [h]; exact plain_leaf n
    · cases hf
  | succ f ih =>
    intro i
    rcases mkT_cases L (f + 1) i with h | ⟨h0, h⟩ | ⟨h0, n, h⟩ | ⟨h0, f', k, hf, hk, h⟩
    · rw [h]; exact plain_hole
    · rw [h]; exact plain_hole
    · rw [h]; exact plain_leaf n
    · cases hf
      rw [h]
      refine ⟨rfl, rfl, rfl, (plainF_iff _).2 fun t ht => ?_⟩
      obtain ⟨j, rfl⟩ := mkA_mem ht
      exact ih j
theorem built_plain (L : List Nat) : plainT (builtT L) := mkT_plain L 12 0
/-! ### the walks -/
set_option maxRecDepth 100000 in
set_option maxHeartbeats 2000000 in
theorem each76_nil (w : World) (f : Value) : Calls Try.prog 76 #[.slice none 0 0, f] w fun e w' => e = .returned (.slice none 0 0) ∧ w' = w := by
  go_enter Try.func76, Try.ntmps76
  go_wp2
  go_ret
  exact ⟨rfl, rfl⟩
set_option maxRecDepth 100000 in
set_option maxHeartbeats 2000000 in
theorem each78_nil (w : World) (f : Value) : Calls Try.prog 78 #[.slice none 0 0, f] w fun e w' => e = .returned (.slice none 0 0) ∧ w' = w := by
  go_enter Try.func78, Try.ntmps78
  go_wp2
  go_ret
  exact ⟨rfl, rfl⟩
set_option maxRecDepth 100000 in
set_option maxHeartbeats 2000000 in
theorem each64_nil (w : World) (f : Value) : Calls Try.prog 64 #[.slice none 0 0, f] w fun e w' => e = .returned (.slice none 0 0) ∧ w' = w := by
  go_enter Try.func64, Try.ntmps64
  go_wp2
  go_ret
  exact ⟨rfl, rfl⟩
set_option maxRecDepth 100000 in
set_option maxHeartbeats 2000000 in
theorem each63_nil (w : World) (f : Value) (a : Option Addr) (c : Nat) : Calls Try.prog 63 #[.slice a 0 c, f] w fun e w' => e = .returned (.slice none 0 0) ∧ w' = w := by
  go_enter Try.func63, Try.ntmps63
  go_wp2
  go_ret
  exact ⟨rfl, rfl⟩
set_option maxRecDepth 100000 in
set_option maxHeartbeats 2000000 in
theorem copyForm_nil (w : World) (op : Int) (name : ByteArray) : Calls Try.prog 62 #[.agg #[.int .u8 op, .string name, .slice none 0 0, .slice none 0 0]] w fun e w' => e = .returned (.agg #[.int .u8 op, .string name, .slice none 0 0, .slice none 0 0]) ∧ w' = (w.alloc (.cells #[.int .u8 op, .string name, .slice none 0 0, .slice none 0 0] 26)).alloc (.cells #[.int .u8 op, .string name, .slice none 0 0, .slice none 0 0] 26) := by
  have h1 := fun W => each76_nil W (.func (.func 77) #[] #[])
  have h2 := fun W => each78_nil W (.func (.func 62) #[] #[])
  go_enter Try.func62, Try.ntmps62
  go_wp2_with (first
    | (go_at_call 76; (refine (h1 _).mono ?_; rintro e w' ⟨rfl, rfl⟩))
    | (go_at_call 78; (refine (h2 _).mono ?_; rintro e w' ⟨rfl, rfl⟩)))
  refine bodyPost_ret (results_cell_row (p := 2) (ty := 26) (by kernel_rfl) _ _ (w.heap.size + 1) 26 _ (0, 0) _ rfl (blk_new1 _ _ _) Try.underlying26 rfl (by kernel_rfl)) rfl ?_
  exact ⟨rfl, rfl⟩
def CopyOk (t : PT) : Prop := ∀ (sv : SL) (w : World), IsPs w.heap.size w sv t.subs → Calls Try.prog 47 #[.agg (t.arr sv)] w (RetP w t)
def EachOk (ts : List PT) : Prop := ∀ (sv : SL) (w : World), IsPs w.heap.size w sv ts → Calls Try.prog 63 #[sv.v, .func (.func 47) #[] #[]] w fun e w' =>
  ∃ sv' : SL, e = .returned sv'.v ∧ IsPq (fun k => w.heap.size ≤ k ∧ k < w'.heap.size) w' sv' ts ∧ Below w.heap.size w w'
set_option maxRecDepth 100000 in
set_option maxHeartbeats 2000000 in
theorem copy_of_each (t : PT) (hp : plainT t) (he : EachOk t.subs) : CopyOk t := by
  intro sv w hs
  obtain ⟨h1, h2, h3, _⟩ := (plainT_eq t).1 hp
  have hf := fun W => copyForm_nil W t.o.op t.o.name
  have he2 := fun W (h : IsPs W.heap.size W sv t.subs) => he sv W h
  have hm := fun W => each64_nil W (.func (.func 65) #[] #[])
  obtain ⟨rule, ⟨op, name, args, fsub, label, marks⟩, subs⟩ := t
  simp only [PT.o, PT.subs] at h1 h2 h3 hf he2 hs
  subst h1 h2 h3
  obtain ⟨sa, sn, sc⟩ := sv
  simp only [RetP, PT.arr, PT.rule, PT.o, PT.subs, SL.v, SL.nil] at hf he2 ⊢
  have HE := Lib.hid he2
  have HS := Lib.hid hs
  clear he he2 hs hp
  go_enter Try.func47, Try.ntmps47
  go_upto_region 2 with (go_at_call 62; (refine (hf _).mono ?_; rintro e w1 ⟨rfl, rfl⟩))
  obtain ⟨W1, hW1⟩ : ∃ W1, W1 = (((w.alloc (.cells #[.string rule, .int .u8 op, .string name, .slice none 0 0, .slice none 0 0, .int .i64 label, .slice sa sn sc, .slice none 0 0] 30)).alloc (.cells #[.string ⟨#[]⟩, .int .u8 0, .string ⟨#[]⟩, .slice none 0 0, .slice none 0 0, .int .i64 0, .slice none 0 0, .slice none 0 0] 30)).alloc (.cells #[.int .u8 op, .string name, .slice none 0 0, .slice none 0 0] 26)).alloc (.cells #[.int .u8 op, .string name, .slice none 0 0, .slice none 0 0] 26) := ⟨_, rfl⟩
  rw [← hW1]
  have hb1 : Below w.heap.size w W1 := by rw [hW1]; exact ((((Below.refl _ w).alloc (Nat.le_refl _) _).alloc (by simp) _).alloc (by simp; omega) _).alloc (by simp; omega) _
  have hz1 : W1.heap.size = w.heap.size + 4 := by rw [hW1]; simp
  have cb : W1.heap[w.heap.size]? = some (.cells #[.string rule, .int .u8 op, .string name, .slice none 0 0, .slice none 0 0, .int .i64 label, .slice sa sn sc, .slice none 0 0] 30 (0, 0)) := by rw [hW1]; exact HK.blk_alloc (HK.blk_alloc (HK.blk_alloc (HK.blk_new _ _) _) _) _
  have db : W1.heap[w.heap.size + 1]? = some (.cells #[.string ⟨#[]⟩, .int .u8 0, .string ⟨#[]⟩, .slice none 0 0, .slice none 0 0, .int .i64 0, .slice none 0 0, .slice none 0 0] 30 (0, 0)) := by rw [hW1]; exact HK.blk_alloc (HK.blk_alloc (blk_new1 _ _ _) _) _
  have c6 : W1.cell? ⟨w.heap.size, 6, none⟩ = some (.slice sa sn sc) := HK.blk_cell cb 6
  have he3 := HE.out W1 (HS.out.up hb1)
  have HE3 := Lib.hid he3
  have HB1 := Lib.hid hb1
  have HZ1 := Lib.hid hz1
  have HCB := Lib.hid cb
  have HDB := Lib.hid db
  clear hW1 hb1 hz1 cb db he3
  go_upto_region 3 with (
    go_at_call 63
    refine HE3.out.mono ?_
    rintro e w2 ⟨⟨ta, tn, tc⟩, rfl, hq2, hB2⟩
    have HQ2 := Lib.hid hq2
    have HB2 := Lib.hid hB2
    have cb := (hB2.block _ (HK.blk_lt HCB.out)).trans HCB.out
    have db := (hB2.block _ (HK.blk_lt HDB.out)).trans HDB.out
    have c0 : w2.cell? ⟨w.heap.size, 0, none⟩ = some (.string rule) := HK.blk_cell cb 0
    have c1 : w2.cell? ⟨w.heap.size, 1, none⟩ = some (.int .u8 op) := HK.blk_cell cb 1
    have c2 : w2.cell? ⟨w.heap.size, 2, none⟩ = some (.string name) := HK.blk_cell cb 2
    have c3 : w2.cell? ⟨w.heap.size, 3, none⟩ = some (.slice none 0 0) := HK.blk_cell cb 3
    have c4 : w2.cell? ⟨w.heap.size, 4, none⟩ = some (.slice none 0 0) := HK.blk_cell cb 4
    have c5 : w2.cell? ⟨w.heap.size, 5, none⟩ = some (.int .i64 label) := HK.blk_cell cb 5
    have c6 : w2.cell? ⟨w.heap.size, 6, none⟩ = some (.slice sa sn sc) := HK.blk_cell cb 6
    have c7 : w2.cell? ⟨w.heap.size, 7, none⟩ = some (.slice none 0 0) := HK.blk_cell cb 7
    have d0 : w2.cell? ⟨w.heap.size + 1, 0, none⟩ = some (.string ⟨#[]⟩) := HK.blk_cell db 0
    have d1 : w2.cell? ⟨w.heap.size + 1, 1, none⟩ = some (.int .u8 0) := HK.blk_cell db 1
    have d2 : w2.cell? ⟨w.heap.size + 1, 2, none⟩ = some (.string ⟨#[]⟩) := HK.blk_cell db 2
    have d3 : w2.cell? ⟨w.heap.size + 1, 3, none⟩ = some (.slice none 0 0) := HK.blk_cell db 3
    have d4 : w2.cell? ⟨w.heap.size + 1, 4, none⟩ = some (.slice none 0 0) := HK.blk_cell db 4
    have d5 : w2.cell? ⟨w.heap.size + 1, 5, none⟩ = some (.int .i64 0) := HK.blk_cell db 5
    have d6 : w2.cell? ⟨w.heap.size + 1, 6, none⟩ = some (.slice none 0 0) := HK.blk_cell db 6
    have d7 : w2.cell? ⟨w.heap.size + 1, 7, none⟩ = some (.slice none 0 0) := HK.blk_cell db 7
    have cf := fun i => HK.blk_frozen cb i
    have df := fun i => HK.blk_frozen db i
    have HCC := Lib.hid cb
    have HDD := Lib.hid db
    clear hq2 hB2 cb db)
  go_wp2_with (go_at_call 64; (refine (hm _).mono ?_; rintro e w' ⟨rfl, rfl⟩))
  obtain ⟨W3, hW3⟩ : ∃ W3, W3 = (w2.setCell ⟨w.heap.size, 6, none⟩ (.slice ta tn tc)).setCell ⟨w.heap.size, 7, none⟩ (.slice none 0 0) := ⟨_, rfl⟩
  rw [← hW3]
  have hF3 : HK.Frm (· = w.heap.size) w2 W3 := by
    rw [hW3]; exact HK.Frm.setCell (p := ⟨w.heap.size, 7, none⟩) (HK.Frm.setCell (p := ⟨w.heap.size, 6, none⟩) (HK.Frm.refl (· = w.heap.size) w2) (.inl rfl) _) (.inl rfl) _
  have hd3 := hF3.heap HDD.out (by omega)
  have hF8 := set8_frm W3 (w.heap.size + 1) (.string rule) (.int .u8 op) (.string name) (.slice none 0 0) (.slice none 0 0) (.int .i64 label) (.slice ta tn tc) (.slice none 0 0)
  refine bodyPost_ret (results_cell_row (p := 2) (ty := 30) (by kernel_rfl) _ _ (w.heap.size + 1) 30 _ (0, 0) _ rfl (set8 hd3 _ _ _ _ _ _ _ _) Try.underlying30 rfl (by kernel_rfl)) rfl ?_
  have hz3 := hF3.size
  have hz8 := hF8.size
  have hz2 := HB2.out.size
  have hz1 := HZ1.out
  refine ⟨⟨ta, tn, tc⟩, rfl, HQ2.out.turn fun b hb => ⟨⟨by omega, by omega⟩, (hF8.block b (by omega) (by omega)).trans (hF3.block b hb.2 (by omega))⟩, ?_⟩
  exact HB1.out.trans ((HB2.out.mono (by omega)).trans ((hF3.below (B := w.heap.size) (by omega) (fun k e => by omega)).trans (hF8.below (B := w.heap.size) (by omega) (fun k e => by omega))))
theorem info30 : (Try.prog.info? 30).map (fun i => (i.zero, i.size, i.bytes)) = some (some (.agg #[.string ⟨#[]⟩, .int .u8 0, .string ⟨#[]⟩, .slice none 0 0, .slice none 0 0, .int .i64 0, .slice none 0 0, .slice none 0 0]), 8, 144) := by kernel_rfl
theorem proofs_make (N : Nat) (hN : N ≤ 20000) : ∃ cur : Array Value, cur.size = N * 8 ∧ ∀ w : World, (Instr.makeSlice 27 (.int .i64 (N : Int)) (.int .i64 (N : Int))).run Try.prog w = .ok (.slice (some ⟨w.heap.size, 0, none⟩) N N) (w.alloc (.cells cur 30)) := by
  obtain ⟨i, hi, h0, h1, h2⟩ := info_parts info30
  refine ⟨madeCells (Value.agg #[.string ⟨#[]⟩, .int .u8 0, .string ⟨#[]⟩, .slice none 0 0, .slice none 0 0, .int .i64 0, .slice none 0 0, .slice none 0 0]).cells (N * i.size), by rw [size_madeCells, h1], fun w => ?_⟩
  have := run_make w 27 30 i _ Try.underlying27 hi h0 .i64 .i64 (N : Int) (N : Int) (by omega) (Int.le_refl _) (by rw [h2]; omega) (by omega)
  simp only [Int.toNat_natCast] at this
  exact this
set_option maxRecDepth 100000 in
set_option maxHeartbeats 4000000 in
theorem each_of_copy (ts : List PT) (hp : plainF ts) (hl : ts.length ≤ 10000) (hc : ∀ t ∈ ts, CopyOk t) : EachOk ts := by
  intro sv w hs
  obtain ⟨sa, n, sc⟩ := sv
  have hn : n = ts.length := hs.len
  simp only [SL.v]
  by_cases h0 : n = 0
  · subst h0
    refine Calls.mono (each63_nil w _ sa sc) ?_
    rintro e w' ⟨rfl, rfl⟩
    have : ts = [] := List.length_eq_zero_iff.1 hn.symm
    subst this
    exact ⟨SL.nil, rfl, .nil _ _, Below.refl _ _⟩
  · obtain ⟨cur0, hcur0, hmk⟩ := proofs_make n (by omega)
    have b0 : ((n : Int) == 0) = false := by simp; omega
    have b1 : ¬ (n : Int) = 0 := by omega
    have HN := Lib.hid hn
    have HS := Lib.hid hs
    have HC := Lib.hid hc
    have HCU := Lib.hid hcur0
    have HPL := Lib.hid hp
    have hn2 : n ≤ 10000 := by omega
    clear hn hs hc hcur0 hp
    go_enter Try.func63, Try.ntmps63
    go_wp2_with (fail)
    go_loopw [16] (fun i wr => ∃ (k : Nat) (xs : List (PT × SL)) (cur : Array Value), k ≤ n ∧ i = .int .i64 k ∧ xs.map (·.1) = ts.take k ∧ Below w.heap.size w wr ∧ wr.heap[w.heap.size]? = some (.cells cur 30 (0, 0)) ∧ cur.size = n * 8 ∧ RowFill cur xs ∧ ∀ x ∈ xs, IsPq (fun b => w.heap.size < b ∧ b < wr.heap.size) wr x.2 x.1.subs) (fun i _ => n - (intOf i).toNat)
    case atStart => exact ⟨0, [], cur0, by omega, rfl, rfl, (Below.refl _ w).alloc (Nat.le_refl _) _, HK.blk_new _ _, HCU.out, (fun i x hx => by simp at hx), (fun x hx => by simp at hx)⟩
    case round =>
      obtain ⟨k, xs, cur, hk, rfl, hxs, hB, hR, hcz, hf, hq⟩ := hrel
      have hxl : xs.length = k := by
        have := congrArg List.length hxs
        rw [List.length_map, List.length_take, ← HN.out] at this; omega
      have HXS := Lib.hid hxs
      have HB := Lib.hid hB
      have HR := Lib.hid hR
      have HCZ := Lib.hid hcz
      have HF := Lib.hid hf
      have HQ := Lib.hid hq
      have HXL := Lib.hid hxl
      clear hxs hB hR hcz hf hq hxl
      by_cases h1 : k < n
      · obtain ⟨t, ht⟩ : ∃ t, ts[k]? = some t := ⟨_, List.getElem?_eq_getElem (by rw [← HN.out]; exact h1)⟩
        obtain ⟨g, o, rfl⟩ := ps_addr HS.out ht
        obtain ⟨sv2, hcl, hps⟩ := row_at (HS.out.same fun j hj => HB.out.block j hj) ht
        have hpt := (plainF_iff ts).1 HPL.out t (List.mem_of_getElem? ht)
        have hcopy := HC.out t (List.mem_of_getElem? ht) sv2 (wr.alloc (.cells (t.arr sv2) 30)) ((hps.mono HB.out.size).up ((Below.refl _ wr).alloc (Nat.le_refl _) _))
        have htk : ts.take (k + 1) = ts.take k ++ [t] := by
          obtain ⟨hl, he⟩ := List.getElem?_eq_some_iff.1 ht
          rw [List.take_succ_eq_append_getElem hl, he]
        obtain ⟨q1, q2, q3, _⟩ := (plainT_eq t).1 hpt
        obtain ⟨r2, ⟨op2, name2, args2, fsub2, label2, marks2⟩, s2⟩ := t
        simp only [PT.o] at q1 q2 q3
        subst q1 q2 q3
        obtain ⟨ta, tn, tc⟩ := sv2
        unfold RetP at hcopy
        simp only [PT.arr, PT.vals, PT.rule, PT.o, PT.subs, SL.v, SL.nil] at hcl hcopy
        have y0 : wr.cell? ⟨g, o + k * 8, none⟩ = some (.string r2) := hcl 0 _ rfl
        have y1 : wr.cell? ⟨g, o + k * 8 + 1, none⟩ = some (.int .u8 op2) := hcl 1 _ rfl
        have y2 : wr.cell? ⟨g, o + k * 8 + 2, none⟩ = some (.string name2) := hcl 2 _ rfl
        have y3 : wr.cell? ⟨g, o + k * 8 + 3, none⟩ = some (.slice none 0 0) := hcl 3 _ rfl
        have y4 : wr.cell? ⟨g, o + k * 8 + 4, none⟩ = some (.slice none 0 0) := hcl 4 _ rfl
        have y5 : wr.cell? ⟨g, o + k * 8 + 5, none⟩ = some (.int .i64 label2) := hcl 5 _ rfl
        have y6 : wr.cell? ⟨g, o + k * 8 + 6, none⟩ = some (.slice ta tn tc) := hcl 6 _ rfl
        have y7 : wr.cell? ⟨g, o + k * 8 + 7, none⟩ = some (.slice none 0 0) := hcl 7 _ rfl
        have HCP := Lib.hid hcopy
        have HTK := Lib.hid htk
        have z1 : (0 : Int) ≤ (k : Int) := by omega
        have z2 : (k : Int) < (n : Int) := by omega
        clear hcl hps hcopy htk ht hpt
        go_wp2_with (
          go_at_call 47
          refine HCP.out.mono ?_
          rintro e w2 ⟨⟨va, vn, vc⟩, rfl, hq2, hB2⟩
          have hR2 := (hB2.block _ (by have := HK.blk_lt HR.out; simp; omega)).trans (HK.blk_alloc HR.out (.cells #[.string r2, .int .u8 op2, .string name2, .slice none 0 0, .slice none 0 0, .int .i64 label2, .slice ta tn tc, .slice none 0 0] 30))
          obtain ⟨o0, ho0⟩ : ∃ u, cur[k * 8]? = some u := ⟨_, Array.getElem?_eq_getElem (by rw [HCZ.out]; omega)⟩
          have e0 : w2.cell? ⟨w.heap.size, k * 8, none⟩ = some o0 := (HK.blk_cell hR2 _).trans ho0
          obtain ⟨o1, ho1⟩ : ∃ u, cur[k * 8 + 1]? = some u := ⟨_, Array.getElem?_eq_getElem (by rw [HCZ.out]; omega)⟩
          have e1 : w2.cell? ⟨w.heap.size, k * 8 + 1, none⟩ = some o1 := (HK.blk_cell hR2 _).trans ho1
          obtain ⟨o2, ho2⟩ : ∃ u, cur[k * 8 + 2]? = some u := ⟨_, Array.getElem?_eq_getElem (by rw [HCZ.out]; omega)⟩
          have e2 : w2.cell? ⟨w.heap.size, k * 8 + 2, none⟩ = some o2 := (HK.blk_cell hR2 _).trans ho2
          obtain ⟨o3, ho3⟩ : ∃ u, cur[k * 8 + 3]? = some u := ⟨_, Array.getElem?_eq_getElem (by rw [HCZ.out]; omega)⟩
          have e3 : w2.cell? ⟨w.heap.size, k * 8 + 3, none⟩ = some o3 := (HK.blk_cell hR2 _).trans ho3
          obtain ⟨o4, ho4⟩ : ∃ u, cur[k * 8 + 4]? = some u := ⟨_, Array.getElem?_eq_getElem (by rw [HCZ.out]; omega)⟩
          have e4 : w2.cell? ⟨w.heap.size, k * 8 + 4, none⟩ = some o4 := (HK.blk_cell hR2 _).trans ho4
          obtain ⟨o5, ho5⟩ : ∃ u, cur[k * 8 + 5]? = some u := ⟨_, Array.getElem?_eq_getElem (by rw [HCZ.out]; omega)⟩
          have e5 : w2.cell? ⟨w.heap.size, k * 8 + 5, none⟩ = some o5 := (HK.blk_cell hR2 _).trans ho5
          obtain ⟨o6, ho6⟩ : ∃ u, cur[k * 8 + 6]? = some u := ⟨_, Array.getElem?_eq_getElem (by rw [HCZ.out]; omega)⟩
          have e6 : w2.cell? ⟨w.heap.size, k * 8 + 6, none⟩ = some o6 := (HK.blk_cell hR2 _).trans ho6
          obtain ⟨o7, ho7⟩ : ∃ u, cur[k * 8 + 7]? = some u := ⟨_, Array.getElem?_eq_getElem (by rw [HCZ.out]; omega)⟩
          have e7 : w2.cell? ⟨w.heap.size, k * 8 + 7, none⟩ = some o7 := (HK.blk_cell hR2 _).trans ho7
          have ef := fun i => HK.blk_frozen hR2 i
          have HR2 := Lib.hid hR2
          have HQ2 := Lib.hid hq2
          have HB2 := Lib.hid hB2
          clear hR2 hq2 hB2 ho0 ho1 ho2 ho3 ho4 ho5 ho6 ho7)
        go_roundw
        case rel =>
          have hF8 := set8at_frm w2 w.heap.size (k * 8) (.string r2) (.int .u8 op2) (.string name2) (.slice none 0 0) (.slice none 0 0) (.int .i64 label2) (.slice va vn vc) (.slice none 0 0)
          have hR8 := set8at (o := k * 8) HR2.out (.string r2) (.int .u8 op2) (.string name2) (.slice none 0 0) (.slice none 0 0) (.int .i64 label2) (.slice va vn vc) (.slice none 0 0)
          have hz8 := hF8.size
          have hz2 := HB2.out.size
          simp only [World.size_alloc] at hz2
          have hwr := HB.out.size
          have hRr := HK.blk_lt HR.out
          refine ⟨k + 1, xs ++ [(PT.node r2 ⟨op2, name2, SL.nil, SL.nil, label2, SL.nil⟩ s2, (⟨va, vn, vc⟩ : SL))], _, by omega, by go_num, ?_, ?_, hR8, by rw [put8_size]; exact HCZ.out, ?_, ?_⟩
          · rw [List.map_append, HXS.out, HTK.out]; rfl
          · exact HB.out.trans ((((Below.refl _ wr).alloc (Nat.le_refl _) _).trans (HB2.out.mono (by simp))).mono hwr |>.trans (hF8.below (B := w.heap.size) (by omega) (fun b e => by omega)))
          · have hpf := HF.out.put (by rw [HXL.out, HCZ.out]; omega) (PT.node r2 ⟨op2, name2, SL.nil, SL.nil, label2, SL.nil⟩ s2) ⟨va, vn, vc⟩ rfl
            rw [HXL.out] at hpf
            exact hpf
          · intro x hx
            rcases List.mem_append.1 hx with hx | hx
            · refine (HQ.out x hx).turn fun b hb => ⟨⟨hb.1, by omega⟩, ?_⟩
              rw [hF8.block b (by omega) (by omega), HB2.out.block b (by simp; omega)]
              exact Below.heap_alloc wr _ b hb.2
            · rw [List.mem_singleton.1 hx]
              refine HQ2.out.turn fun b hb => ?_
              simp only [World.size_alloc] at hb
              exact ⟨⟨by omega, by omega⟩, hF8.block b (by omega) (by omega)⟩
        case measure => simp [intOf]; omega
      · have hkn : k = n := by omega
        subst hkn
        have z2 : ¬ ((k : Int) < (k : Int)) := by omega
        go_wp2_with (fail)
        go_ret
        have hts : xs.map (·.1) = ts := by rw [HXS.out, HN.out, List.take_length]
        rw [← hts]
        exact ⟨⟨some ⟨w.heap.size, 0, none⟩, k, k⟩, rfl, fill_pq HR.out HF.out HXL.out.symm ⟨Nat.le_refl _, HK.blk_lt HR.out⟩ (fun x hx => (HQ.out x hx).turn fun b hb => ⟨⟨by omega, hb.2⟩, rfl⟩), HB.out⟩
theorem copy_all (N : Nat) (hN : N ≤ 10000) : ∀ t : PT, plainT t → sizeT t ≤ N → CopyOk t := by
  induction N with
  | zero => intro t _ h; have := sizeT_pos t; omega
  | succ N ih =>
    intro t hp hz
    have hz2 := sizeT_eq t
    refine copy_of_each t hp (each_of_copy _ ((plainT_eq t).1 hp).2.2.2 (by have := sizeF_len t.subs; omega) fun u hu => ?_)
    obtain ⟨i, hi⟩ := List.getElem?_of_mem hu
    have := sizeF_mem hi
    exact ih (by omega) u ((plainF_iff _).1 ((plainT_eq t).1 hp).2.2.2 u hu) (by omega)
end Go.Proofs.Ytfebcpmbkljaoaa
