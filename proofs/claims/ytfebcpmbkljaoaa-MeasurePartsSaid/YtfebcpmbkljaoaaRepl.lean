/- The walks of slices.Clone at proofs, of replace and of With. -/
import Derived.Test.YtfebcpmbkljaoaaCopy
import Derived.StillTailTactics
import Derived.Laws.ResultCell
namespace Go.Proofs.Ytfebcpmbkljaoaa
open Go.RowKit Go.HR
set_option linter.unusedVariables false
set_option linter.unusedSimpArgs false
set_option linter.unusedSectionVars false
/-- Premises in memory, as pairs. -/
theorem ps_pairs {n0 : Nat} {W : World} {s : SL} {ts : List PT} (h : IsPs n0 W s ts) : ∃ xs : List (PT × SL), xs.map (·.1) = ts ∧ ∀ x ∈ xs, IsPs n0 W x.2 x.1.subs := by
  cases h with
  | nil a c => exact ⟨[], rfl, fun x hx => by cases hx⟩
  | row g o c ts sv hg hc hs =>
    refine ⟨ts.zipIdx.map fun p => (p.1, sv p.2), by rw [List.map_map]; exact List.zipIdx_map_fst .., fun x hx => ?_⟩
    obtain ⟨p, hp, rfl⟩ := List.mem_map.1 hx
    exact hs p.2 p.1 (List.mem_zipIdx_iff_getElem?.1 hp)
/-- A non-empty row of premises, read: its cells, flat. -/
theorem ps_flat {n0 : Nat} {W : World} {g o n c : Nat} {ts : List PT} (h : IsPs n0 W ⟨some ⟨g, o, none⟩, n, c⟩ ts) : ∃ xs : List (PT × SL), xs.map (·.1) = ts ∧ (∀ x ∈ xs, IsPs n0 W x.2 x.1.subs) ∧
    (∀ (i : Nat) x, xs[i]? = some x → ∀ (j : Nat) v, (x.1.vals x.2)[j]? = some v → W.cell? ⟨g, o + (i * 8 + j), none⟩ = some v) := by
  cases h with
  | nil a c => exact ⟨[], rfl, (fun x hx => by cases hx), (fun i x hx => by simp at hx)⟩
  | row g o c ts sv hg hc hs =>
    refine ⟨ts.zipIdx.map fun p => (p.1, sv p.2), by rw [List.map_map]; exact List.zipIdx_map_fst .., fun x hx => ?_, fun i x hx j v hv => ?_⟩
    · obtain ⟨p, hp, rfl⟩ := List.mem_map.1 hx
      exact hs p.2 p.1 (List.mem_zipIdx_iff_getElem?.1 hp)
    · rw [List.getElem?_map, List.getElem?_zipIdx] at hx
      obtain ⟨p, hp, rfl⟩ := Option.map_eq_some_iff.1 hx
      obtain ⟨t, ht, rfl⟩ := Option.map_eq_some_iff.1 hp
      simp only [Nat.zero_add] at hv
      have := hc i t ht j v hv
      rwa [Nat.add_assoc] at this
theorem flatP_len (xs : List (PT × SL)) : (flatP xs).length = xs.length * 8 := by
  induction xs with
  | nil => rfl
  | cons x xs ih => simp only [flatP, List.flatMap_cons, List.length_append, List.length_cons] at ih ⊢; rw [ih]; simp [PT.arr]; omega
theorem flatP_fill (xs : List (PT × SL)) (i : Nat) (x : PT × SL) (hx : xs[i]? = some x) (j : Nat) (v : Value) (hv : (x.1.vals x.2)[j]? = some v) : (flatP xs)[i * 8 + j]? = some v := by
  have hj : j < 8 := (List.getElem?_eq_some_iff.1 hv).1
  rw [flatP, flat_get (fun x : PT × SL => (x.1.arr x.2).toList) 8 (fun x => rfl) xs i j x hx hj]
  exact hv
theorem one_cells (t : PT) (s : SL) : ∀ u ∈ (t.arr s).toList, u.oneCell' = true := by
  intro u hu
  simp only [PT.arr, SL.v, List.mem_cons, List.not_mem_nil, or_false] at hu
  rcases hu with rfl | rfl | rfl | rfl | rfl | rfl | rfl | rfl <;> rfl
set_option maxRecDepth 100000 in
set_option maxHeartbeats 2000000 in
/-- A copy of a row of proofs: a row of the call's own. -/
theorem clone61 (w : World) (g o c : Nat) (xs : List (PT × SL)) (hl : xs.length ≤ 10000) (hc : ∀ (i : Nat) x, xs[i]? = some x → ∀ (j : Nat) v, (x.1.vals x.2)[j]? = some v → w.cell? ⟨g, o + (i * 8 + j), none⟩ = some v) (hne : xs ≠ []) :
    Calls Try.prog 61 #[.slice (some ⟨g, o, none⟩) xs.length c] w fun e w' => ∃ g' c', e = .returned (.slice (some ⟨g', 0, none⟩) xs.length c') ∧ w'.ownsRow w.heap.size 30 8 (.slice (some ⟨g', 0, none⟩) xs.length c') xs.length (flatP xs) ∧ Below w.heap.size w w' := by
  obtain ⟨i0, hi, hz0, hz1, hz2⟩ := info_parts info30
  have he : (binOp .eql 27 (.slice (some ⟨g, o, none⟩) xs.length c) (.slice none 0 0)).run Try.prog w = .ok (.bool false) w := Lib.run_eql_slice_nil w 27 30 (some ⟨g, o, none⟩) xs.length c 0 0 Try.underlying27
  have h0 : (w.alloc (.cells #[] 30)).ownsRow w.heap.size 30 8 (.slice (some ⟨w.heap.size, 0, none⟩) 0 0) 0 [] := World.ownsRow_lit w #[] 0 (Nat.le_refl _) (by simp [maxLen]) rfl
  have hc' : ∀ j u, (flatP xs)[j]? = some u → (w.alloc (.cells #[] 30)).cell? ((⟨g, o, none⟩ : Addr).add j) = some u := fun j u hj => by
    have hjl := (List.getElem?_eq_some_iff.1 hj).1
    rw [flatP_len] at hjl
    obtain ⟨x, hx⟩ : ∃ x, xs[j / 8]? = some x := ⟨_, List.getElem?_eq_getElem (by omega)⟩
    have hval : (x.1.vals x.2)[j % 8]? = some u := by
      have h9 := hj
      rw [flatP, show j = j / 8 * 8 + j % 8 by omega, flat_get (fun x : PT × SL => (x.1.arr x.2).toList) 8 (fun x => rfl) xs (j / 8) (j % 8) x hx (by omega)] at h9
      exact h9
    have h1 := hc _ x hx _ u hval
    rw [show j / 8 * 8 + j % 8 = j by omega] at h1
    have h2 := (World.cell?_of_block (a := ⟨g, o + j, none⟩) (Below.heap_alloc w (.cells #[] 30) g (World.block_lt_of_cell? w _ h1))).trans h1
    by_cases hj0 : j = 0
    · subst hj0; simpa [Addr.add] using h2
    · simpa [Addr.add, hj0] using h2
  have hfl := flatP_len xs
  have hone : ∀ u ∈ flatP xs, u.oneCell' = true := by
    intro u hu
    simp only [flatP, List.mem_flatMap] at hu
    obtain ⟨x, _, hx⟩ := hu
    exact one_cells _ _ u hx
  obtain ⟨n, hn⟩ : ∃ n, n = xs.length := ⟨_, rfl⟩
  rw [← hn] at hl he hfl ⊢
  have hn0 : n ≠ 0 := fun e => hne (List.length_eq_zero_iff.1 (by omega))
  clear hc hne hn
  go_enter Try.func61, Try.ntmps61
  go_wp2_with (
    at_builtin
    refine wpList_append_own _ rfl _ _ 27 rfl w.heap.size 30 i0 (.agg #[.string ⟨#[]⟩, .int .u8 0, .string ⟨#[]⟩, .slice none 0 0, .slice none 0 0, .int .i64 0, .slice none 0 0, .slice none 0 0]) 8 144 Try.underlying27 hi hz0 hz1 hz2 rfl (by decide) (.slice (some ⟨w.heap.size, 0, none⟩) 0 0) 0 [] rfl h0 ⟨g, o, none⟩ n c (flatP xs) rfl hfl hc' hone (by simp only [maxLen]; omega) (by omega) (by simp) ?_
    intro v' w1 hown1 hgrow hnil)
  go_ret
  simp only [Nat.zero_add, List.nil_append] at hown1
  rcases hown1.2 with ⟨h1, h2⟩ | ⟨g', cap, cur, rfl, hg, hh, r⟩
  · omega
  · exact ⟨g', cap, rfl, hown1, ((Below.refl _ w).alloc (Nat.le_refl _) _).grown hgrow (by simp) (fun k e => by cases e; exact Nat.le_refl _)⟩
theorem results_row_tmp {P : Program} {fn : Func} {p u : Tmp} {ty : TypeId} (h : fn.results = #[.cell p ty, .tmp u]) (tmps : Array Value) (w : World) (g : Nat) (t : TypeId) (cs : Array Value) (fr : Nat × Nat) (d : TypeDesc) (b : Value)
    (hp : tmps.getD p undef = .pointer (some ⟨g, 0, none⟩)) (hb : tmps.getD u undef = b) (hg : w.heap[g]? = some (.cells cs t fr))
    (hu : P.underlying ty = some d) (hd : (match d with | .struct _ | .array _ _ => true | _ => false) = true) (hi : (P.info? ty).map (·.size) = some cs.size) :
    (results fn tmps).run P w = .ok (.tuple #[.agg cs, b]) w := by
  rw [results_cell_tmp h, hp, hb]
  simp [asAddr, run_loadVar_row w g t ty cs fr d hg hu hd hi, Result.andThen]
theorem own_fill {W : World} {base g n c : Nat} {xs : List (PT × SL)} (h : W.ownsRow base 30 8 (.slice (some ⟨g, 0, none⟩) n c) n (flatP xs)) : ∃ cur, W.heap[g]? = some (.cells cur 30 (0, 0)) ∧ RowFill cur xs ∧ xs.length * 8 ≤ cur.size := by
  obtain ⟨cur, hh⟩ := HK.owns_block h
  have hc := h.cells (g := g) rfl
  have hf : ∀ j u, (flatP xs)[j]? = some u → cur[j]? = some u := fun j u hj => by
    have := hc j u hj
    rw [add_zero_at, HK.blk_cell hh] at this
    exact this
  refine ⟨cur, hh, fun i x hx j v hv => hf _ _ (flatP_fill xs i x hx j v hv), ?_⟩
  by_cases h0 : xs.length * 8 = 0
  · omega
  · have hl := flatP_len xs
    obtain ⟨u, hu⟩ : ∃ u, (flatP xs)[xs.length * 8 - 1]? = some u := ⟨_, List.getElem?_eq_getElem (by omega)⟩
    have := (Array.getElem?_eq_some_iff.1 (hf _ u hu)).1
    omega
theorem RowFill.set {cur : Array Value} {xs : List (PT × SL)} (h : RowFill cur xs) (hl : xs.length * 8 ≤ cur.size) {k : Nat} (hk : k < xs.length) (t : PT) (sv : SL) {v0 v1 v2 v3 v4 v5 v6 v7 : Value} (hv : t.vals sv = [v0, v1, v2, v3, v4, v5, v6, v7]) :
    RowFill (put8 cur (k * 8) v0 v1 v2 v3 v4 v5 v6 v7) (xs.set k (t, sv)) := by
  intro i x hx j v hj
  have hj8 : j < 8 := (List.getElem?_eq_some_iff.1 hj).1
  by_cases hi : i = k
  · subst hi
    rw [List.getElem?_set_self hk] at hx
    simp only [Option.some.injEq] at hx
    subst hx
    rw [hv] at hj
    exact put8_in (by omega) _ _ _ _ _ _ _ _ hj
  · rw [List.getElem?_set_ne (by omega)] at hx
    rw [put8_out (by omega)]
    exact h i x hx j v hj
/-- A proof with another part at a place. -/
def replT : PT → List Int → PT → Option PT
  | t, [], u => some u
  | .node r o s, i :: is, u => if 0 ≤ i ∧ i < s.length then
      match s[i.toNat]? with
      | some q => (replT q is u).map fun q' => .node r o (s.set i.toNat q')
      | none => none
    else none
theorem bl_d (w : World) : Below w.heap.size w w.drew := ⟨rfl, rfl, rfl, Nat.le_refl _, fun _ _ => rfl⟩
theorem bl_ad (w : World) (o : Obj) : Below w.heap.size w (w.alloc o).drew := (Below.refl _ w).alloc (Nat.le_refl _) o |>.trans ⟨rfl, rfl, rfl, Nat.le_refl _, fun _ _ => rfl⟩
def RetR (n0 : Nat) (w : World) (r : Option PT) (e : Ending) (w' : World) : Prop :=
  ∃ sv : SL, e = .returned (.tuple #[.agg ((r.getD zeroT).arr sv), .bool r.isSome]) ∧ IsPq (fun b => b < n0 ∨ (w.heap.size ≤ b ∧ b < w'.heap.size)) w' sv (r.getD zeroT).subs ∧ Below w.heap.size w w'
section
variable (u : PT) (su : SL) (hzu : sizeT u ≤ 10000)
set_option maxRecDepth 100000 in
set_option maxHeartbeats 4000000 in
/-- At the empty place. -/
theorem repl_nil (n0 : Nat) (w : World) (hn0 : n0 ≤ w.heap.size) (t : PT) (sv s : SL) (hu : IsPs n0 w su u.subs) (h0 : s.n = 0) : Calls Try.prog 46 #[.agg (t.arr sv), s.v, .agg (u.arr su)] w (RetR n0 w (some u)) := by
  obtain ⟨rule, ⟨op, name, ⟨aa, an, ac⟩, ⟨fa, fn, fc⟩, label, ⟨ma, mn, mc⟩⟩, subs⟩ := t
  obtain ⟨r2, ⟨o2, n2, ⟨ba, bn, bc⟩, ⟨da, dn, dc⟩, l2, ⟨na, nn, nc⟩⟩, s2⟩ := u
  obtain ⟨ta, tn, tc⟩ := sv
  obtain ⟨va, vn, vc⟩ := su
  obtain ⟨a, n, c⟩ := s
  simp only at h0
  subst h0
  simp only [PT.arr, PT.rule, PT.o, PT.subs, SL.v, RetR] at hu ⊢
  have HU := Lib.hid hu
  clear hu
  go_enter Try.func46, Try.ntmps46
  go_wp2_with (fail)
  refine bodyPost_ret (results_row_tmp (p := 6) (u := 7) (by kernel_rfl) _ _ (w.heap.size + 2) 30 _ (0, 0) _ (.bool true) rfl rfl (blk_new2 _ _ _ _) Try.underlying30 rfl (by kernel_rfl)) rfl ?_
  have hbz := (((Below.refl _ w).alloc (Nat.le_refl _) (.cells #[.string rule, .int .u8 op, .string name, .slice aa an ac, .slice fa fn fc, .int .i64 label, .slice ta tn tc, .slice ma mn mc] 30)).alloc (by simp) (.cells #[.string r2, .int .u8 o2, .string n2, .slice ba bn bc, .slice da dn dc, .int .i64 l2, .slice va vn vc, .slice na nn nc] 30)).alloc (by simp; omega) (.cells #[.string r2, .int .u8 o2, .string n2, .slice ba bn bc, .slice da dn dc, .int .i64 l2, .slice va vn vc, .slice na nn nc] 30)
  exact ⟨⟨va, vn, vc⟩, rfl, HU.out.pq.turn (fun b hb => ⟨.inl hb, hbz.block b (by omega)⟩), (((Below.refl _ w).alloc (Nat.le_refl _) _).alloc (by simp) _).alloc (by simp; omega) _⟩
set_option maxRecDepth 100000 in
set_option maxHeartbeats 4000000 in
/-- An index that there is not. -/
theorem repl_out (n0 : Nat) (w : World) (t : PT) (sv s : SL) (i : Int) (is : List Int) (hs : IsPs w.heap.size w sv t.subs) (hi : IsI w s (i :: is)) (hzt : sizeT t ≤ 10000) (hl : is.length ≤ 20000) (ho : ¬ (0 ≤ i ∧ i < t.subs.length)) : Calls Try.prog 46 #[.agg (t.arr sv), s.v, .agg (u.arr su)] w (RetR n0 w none) := by
  have htn : sv.n = t.subs.length := hs.len
  have hlen : t.subs.length ≤ 10000 := by have := sizeT_eq t; have := sizeF_len t.subs; omega
  obtain ⟨rule, ⟨op, name, ⟨aa, an, ac⟩, ⟨fa, fn, fc⟩, label, ⟨ma, mn, mc⟩⟩, subs⟩ := t
  obtain ⟨r2, ⟨o2, n2, ⟨ba, bn, bc⟩, ⟨da, dn, dc⟩, l2, ⟨na, nn, nc⟩⟩, s2⟩ := u
  obtain ⟨ta, tn, tc⟩ := sv
  obtain ⟨va, vn, vc⟩ := su
  obtain ⟨a, n, c⟩ := s
  obtain ⟨hn, hc, hx⟩ := hi
  obtain ⟨g, o, ha, hcl⟩ := hx.resolve_left (by simp)
  simp only [List.length_cons] at hn ha htn hc
  subst ha
  simp only [PT.subs] at htn hlen ho
  have c0 : w.cell? ⟨g, o, none⟩ = some (.int .i64 i) := hcl 0 i rfl
  have c0' : ∀ o1 o2 o3, (((w.alloc o1).alloc o2).alloc o3).cell? ⟨g, o, none⟩ = some (.int .i64 i) := fun o1 o2 o3 => cell_then c0 ((((Below.refl _ w).alloc (Nat.le_refl _) _).alloc (by simp) _).alloc (by simp; omega) _)
  simp only [PT.arr, PT.rule, PT.o, PT.subs, SL.v, RetR]
  have b1 : ((n : Int) == 0) = false := by simp; omega
  have b2 : ¬ (n : Int) = 0 := by omega
  have b3 : (0 : Int) < (n : Int) := by omega
  have hn2 : n ≤ 20001 := by omega
  have htn2 : tn ≤ 10000 := by omega
  have HTN := Lib.hid htn
  by_cases h0 : i < 0
  · clear hs hx hcl hn htn c0 hzt ho
    go_enter Try.func46, Try.ntmps46
    go_wp2_with (fail)
    refine bodyPost_ret (results_row_tmp (p := 6) (u := 7) (by kernel_rfl) _ _ (w.heap.size + 2) 30 _ (0, 0) _ (.bool false) rfl rfl (blk_new2 _ _ _ _) Try.underlying30 rfl (by kernel_rfl)) rfl ?_
    exact ⟨SL.nil, rfl, .nil _ _, (((Below.refl _ w).alloc (Nat.le_refl _) _).alloc (by simp) _).alloc (by simp; omega) _⟩
  · have h1 : ¬ (i < (tn : Int)) := by omega
    clear hs hx hcl hn htn c0 hzt ho
    go_enter Try.func46, Try.ntmps46
    go_wp2_with (fail)
    refine bodyPost_ret (results_row_tmp (p := 6) (u := 7) (by kernel_rfl) _ _ (w.heap.size + 2) 30 _ (0, 0) _ (.bool false) rfl rfl (blk_new2 _ _ _ _) Try.underlying30 rfl (by kernel_rfl)) rfl ?_
    exact ⟨SL.nil, rfl, .nil _ _, (((Below.refl _ w).alloc (Nat.le_refl _) _).alloc (by simp) _).alloc (by simp; omega) _⟩
end
set_option maxRecDepth 100000 in
set_option maxHeartbeats 8000000 in
/-- One step down. -/
theorem repl_step (n0 : Nat) (u : PT) (su : SL) (w : World) (hn0 : n0 ≤ w.heap.size) (rule : ByteArray) (o : PO) (subs : List PT) (sv s : SL) (i : Nat) (is : List Int) (q : PT) (r : Option PT) (hs : IsPs n0 w sv subs) (hu : IsPs n0 w su u.subs) (hi : IsI w s ((i : Int) :: is)) (hlen : subs.length ≤ 10000) (hl : is.length ≤ 20000) (hq : subs[i]? = some q)
    (ih : ∀ (W : World) (sq sp : SL), n0 ≤ W.heap.size → IsPs n0 W sq q.subs → IsPs n0 W su u.subs → IsI W sp is → Calls Try.prog 46 #[.agg (q.arr sq), sp.v, .agg (u.arr su)] W (RetR n0 W r)) :
    Calls Try.prog 46 #[.agg ((PT.node rule o subs).arr sv), s.v, .agg (u.arr su)] w (RetR n0 w (r.map fun q' => PT.node rule o (subs.set i q'))) := by
  have htn : sv.n = subs.length := hs.len
  have hilt : i < subs.length := (List.getElem?_eq_some_iff.1 hq).1
  obtain ⟨ta, tn, tc⟩ := sv
  obtain ⟨g2, o2g, rfl⟩ := ps_addr hs hq
  obtain ⟨a, n, c⟩ := s
  obtain ⟨hn, hc, hx⟩ := hi
  obtain ⟨g, og, ha, hcl⟩ := hx.resolve_left (by simp)
  simp only [List.length_cons] at hn ha htn hc
  subst ha
  have c0 : w.cell? ⟨g, og, none⟩ = some (.int .i64 (i : Nat)) := hcl 0 i rfl
  obtain ⟨A, hA⟩ : ∃ A, (if c = 1 then (⟨g, og, none⟩ : Addr) else ⟨g, og + 1, none⟩) = A := ⟨_, rfl⟩
  have htl : IsI w ⟨some A, n - 1, c - 1⟩ is := by
    refine ⟨by simp only; omega, by simp only; omega, ?_⟩
    by_cases hz : is = []
    · exact .inl hz
    · right
      have h9 : is.length ≠ 0 := fun e => hz (List.length_eq_zero_iff.1 e)
      rw [if_neg (by omega)] at hA
      subst hA
      refine ⟨g, og + 1, rfl, fun j x hx => ?_⟩
      have := hcl (j + 1) x (by simpa using hx)
      rw [show og + 1 + j = og + (j + 1) by omega]
      exact this
  obtain ⟨sq, hcq, hpsq⟩ := row_at hs hq
  obtain ⟨op, name, ⟨aa, an, ac⟩, ⟨fa, fn, fc⟩, label, ⟨ma, mn, mc⟩⟩ := o
  obtain ⟨ur, ⟨uo, un, ⟨ba, bn, bc⟩, ⟨da, dn, dc⟩, ul, ⟨na, nn, nc⟩⟩, us⟩ := u
  obtain ⟨va, vn, vc⟩ := su
  obtain ⟨w3, hw3⟩ : ∃ w3, w3 = ((w.alloc (.cells #[.string rule, .int .u8 op, .string name, .slice aa an ac, .slice fa fn fc, .int .i64 label, .slice (some ⟨g2, o2g, none⟩) tn tc, .slice ma mn mc] 30)).alloc (.cells #[.string ur, .int .u8 uo, .string un, .slice ba bn bc, .slice da dn dc, .int .i64 ul, .slice va vn vc, .slice na nn nc] 30)).alloc (.cells #[.string ⟨#[]⟩, .int .u8 0, .string ⟨#[]⟩, .slice none 0 0, .slice none 0 0, .int .i64 0, .slice none 0 0, .slice none 0 0] 30) := ⟨_, rfl⟩
  have hb3 : Below w.heap.size w w3 := by rw [hw3]; exact (((Below.refl _ w).alloc (Nat.le_refl _) _).alloc (by simp) _).alloc (by simp; omega) _
  have hz3 : w3.heap.size = w.heap.size + 3 := by rw [hw3]; simp
  have k0 : w3.heap[w.heap.size]? = some (.cells #[.string rule, .int .u8 op, .string name, .slice aa an ac, .slice fa fn fc, .int .i64 label, .slice (some ⟨g2, o2g, none⟩) tn tc, .slice ma mn mc] 30 (0, 0)) := by rw [hw3]; exact HK.blk_alloc (HK.blk_alloc (HK.blk_new _ _) _) _
  have k2 : w3.heap[w.heap.size + 2]? = some (.cells #[.string ⟨#[]⟩, .int .u8 0, .string ⟨#[]⟩, .slice none 0 0, .slice none 0 0, .int .i64 0, .slice none 0 0, .slice none 0 0] 30 (0, 0)) := by rw [hw3]; exact blk_new2 _ _ _ _
  have hb3d : Below w.heap.size w w3.drew := ⟨hb3.os, hb3.tape, hb3.output, hb3.size, hb3.block⟩
  have c0' : ∀ o1 o2 o3, (((w.alloc o1).alloc o2).alloc o3).cell? ⟨g, og, none⟩ = some (.int .i64 (i : Nat)) := fun o1 o2 o3 => cell_then c0 ((((Below.refl _ w).alloc (Nat.le_refl _) _).alloc (by simp) _).alloc (by simp; omega) _)
  have hrec := fun (W : World) (hbW : Below w3.heap.size w3 W) => ih W sq ⟨some A, n - 1, c - 1⟩ (Nat.le_trans hn0 (hb3.trans (hbW.mono hb3.size)).size) (hpsq.same fun b hb => (hb3.trans (hbW.mono hb3.size)).block b (by omega)) (hu.same fun b hb => (hb3.trans (hbW.mono hb3.size)).block b (by omega)) (htl.below (hb3.trans (hbW.mono hb3.size)))
  obtain ⟨q, ⟨qo, qn, ⟨ea, en, ec⟩, ⟨ia, i2, ic⟩, ql, ⟨ka, kn, kc⟩⟩, qs⟩ := q
  obtain ⟨xa, xn, xc⟩ := sq
  unfold RetR at hrec
  simp only [PT.arr, PT.vals, PT.rule, PT.o, PT.subs, SL.v] at hrec hcq ⊢
  have c1 := cell_then c0 hb3
  have hy : ∀ (j : Nat) v, [.string q, .int .u8 qo, .string qn, .slice ea en ec, .slice ia i2 ic, .int .i64 ql, .slice xa xn xc, .slice ka kn kc][j]? = some v → w3.cell? ⟨g2, o2g + i * 8 + j, none⟩ = some v := fun j v hj => cell_then (hcq j v hj) hb3
  have y0 : w3.cell? ⟨g2, o2g + i * 8, none⟩ = some (.string q) := hy 0 _ rfl
  have y1 : w3.cell? ⟨g2, o2g + i * 8 + 1, none⟩ = some (.int .u8 qo) := hy 1 _ rfl
  have y2 : w3.cell? ⟨g2, o2g + i * 8 + 2, none⟩ = some (.string qn) := hy 2 _ rfl
  have y3 : w3.cell? ⟨g2, o2g + i * 8 + 3, none⟩ = some (.slice ea en ec) := hy 3 _ rfl
  have y4 : w3.cell? ⟨g2, o2g + i * 8 + 4, none⟩ = some (.slice ia i2 ic) := hy 4 _ rfl
  have y5 : w3.cell? ⟨g2, o2g + i * 8 + 5, none⟩ = some (.int .i64 ql) := hy 5 _ rfl
  have y6 : w3.cell? ⟨g2, o2g + i * 8 + 6, none⟩ = some (.slice xa xn xc) := hy 6 _ rfl
  have y7 : w3.cell? ⟨g2, o2g + i * 8 + 7, none⟩ = some (.slice ka kn kc) := hy 7 _ rfl
  have b1 : ((n : Int) == 0) = false := by simp; omega
  have b2 : ¬ (n : Int) = 0 := by omega
  have b3 : (0 : Int) < (n : Int) := by omega
  have b4 : (0 : Int) ≤ (i : Int) := by omega
  have b5 : (i : Int) < (tn : Int) := by omega
  have b6 : ¬ ((i : Int) < 0) := by omega
  have bd : decide (tn ≤ i) = false := decide_eq_false (by omega)
  have hn2 : n ≤ 20001 := by omega
  have htn2 : tn ≤ 10000 := by omega
  have hcc : n ≤ c := hc
  have b7 : (1 : Int) ≤ (n : Int) := by omega
  have b8 : (1 : Int) ≤ (c : Int) := by omega
  have b9 : (n : Int) ≤ (c : Int) := by omega
  have HREC := Lib.hid hrec
  have HB3 := Lib.hid hb3
  have HZ3 := Lib.hid hz3
  have K0 := Lib.hid k0
  have K2 := Lib.hid k2
  have HS := Lib.hid hs
  have HTN := Lib.hid htn
  have hA2 : (if c = 1 then some (⟨g, og, none⟩ : Addr) else some ⟨g, og + 1, none⟩) = some A := by rw [← hA]; split <;> rfl
  have HQ := Lib.hid hq
  have HW3 := Lib.hid hw3
  have HIL := Lib.hid hilt
  have a6 := HK.blk_cell k0 6
  clear hrec hb3 hb3d hz3 k0 k2 hs htn hA hq hcl hx hu ih hpsq hcq hy htl c0 hn hc hilt
  go_enter Try.func46, Try.ntmps46
  go_upto_region 6 with (fail)
  rw [← HW3.out]
  clear hw3
  have k1 : w3.heap[w.heap.size + 1]? = some (.cells #[.string ur, .int .u8 uo, .string un, .slice ba bn bc, .slice da dn dc, .int .i64 ul, .slice va vn vc, .slice na nn nc] 30 (0, 0)) := by rw [HW3.out]; exact HK.blk_alloc (blk_new1 _ _ _) _
  have u0 : w3.cell? ⟨w.heap.size + 1, 0, none⟩ = some (.string ur) := HK.blk_cell k1 0
  have u1 : w3.cell? ⟨w.heap.size + 1, 1, none⟩ = some (.int .u8 uo) := HK.blk_cell k1 1
  have u2 : w3.cell? ⟨w.heap.size + 1, 2, none⟩ = some (.string un) := HK.blk_cell k1 2
  have u3 : w3.cell? ⟨w.heap.size + 1, 3, none⟩ = some (.slice ba bn bc) := HK.blk_cell k1 3
  have u4 : w3.cell? ⟨w.heap.size + 1, 4, none⟩ = some (.slice da dn dc) := HK.blk_cell k1 4
  have u5 : w3.cell? ⟨w.heap.size + 1, 5, none⟩ = some (.int .i64 ul) := HK.blk_cell k1 5
  have u6 : w3.cell? ⟨w.heap.size + 1, 6, none⟩ = some (.slice va vn vc) := HK.blk_cell k1 6
  have u7 : w3.cell? ⟨w.heap.size + 1, 7, none⟩ = some (.slice na nn nc) := HK.blk_cell k1 7
  clear k1
  obtain ⟨rr, hrr⟩ : ∃ rr, rr = r.getD zeroT := ⟨_, rfl⟩
  obtain ⟨rb, hrb⟩ : ∃ rb, rb = r.isSome := ⟨_, rfl⟩
  have HR2 := HREC.out
  rw [← hrr, ← hrb] at HR2
  obtain ⟨vq, ⟨vo, vn2, ⟨ja, jn, jc⟩, ⟨la, ln, lc⟩, vl, ⟨pa, pn, pc⟩⟩, vs⟩ := rr
  have HRR := Lib.hid hrr
  have HRB := Lib.hid hrb
  clear hrr hrb HREC
  go_cut [9, 10] from 28 to 39 (fun c9 c10 wx => ∃ (B : Nat) (sq : SL), c9 = .pointer (some ⟨B, 0, none⟩) ∧ c10 = .bool rb ∧ wx.heap[B]? = some (.cells ((PT.node vq ⟨vo, vn2, ⟨ja, jn, jc⟩, ⟨la, ln, lc⟩, vl, ⟨pa, pn, pc⟩⟩ vs).arr sq) 30 (0, 0)) ∧ IsPq (fun b => b < n0 ∨ (w3.heap.size ≤ b ∧ b < wx.heap.size)) wx sq vs ∧ Below w3.heap.size w3 wx ∧ w3.heap.size ≤ B ∧ B < wx.heap.size)
  case first =>
    simp only [PT.arr, PT.rule, PT.o, PT.subs, SL.v] at HR2
    have HR3 := Lib.hid HR2
    clear HR2
    have al := fun (o : Obj) => (Below.refl _ w3).alloc (Nat.le_refl _) o
    have a6' : ∀ o, (w3.alloc o).cell? ⟨w.heap.size, 6, none⟩ = some (.slice (some ⟨g2, o2g, none⟩) tn tc) := fun o => cell_then a6 (al o)
    have u0' := fun o => cell_then u0 (al o)
    have y0' := fun o => cell_then y0 (al o)
    have u1' := fun o => cell_then u1 (al o)
    have y1' := fun o => cell_then y1 (al o)
    have u2' := fun o => cell_then u2 (al o)
    have y2' := fun o => cell_then y2 (al o)
    have u3' := fun o => cell_then u3 (al o)
    have y3' := fun o => cell_then y3 (al o)
    have u4' := fun o => cell_then u4 (al o)
    have y4' := fun o => cell_then y4 (al o)
    have u5' := fun o => cell_then u5 (al o)
    have y5' := fun o => cell_then y5 (al o)
    have u6' := fun o => cell_then u6 (al o)
    have y6' := fun o => cell_then y6 (al o)
    have u7' := fun o => cell_then u7 (al o)
    have y7' := fun o => cell_then y7 (al o)
    clear al
    go_region_law
      ((first
        | (go_simp
           go_at_call 46
           with_reducible refine (HR3.out (w3.alloc (.cells #[.string ⟨#[]⟩, .int .u8 0, .string ⟨#[]⟩, .slice none 0 0, .slice none 0 0, .int .i64 0, .slice none 0 0, .slice none 0 0] 30)).drew (bl_ad _ _)).mono ?_
           rintro e w6 ⟨⟨ta', tn', tc'⟩, rfl, hq6, hB6⟩
           have hbx : w6.heap[w3.heap.size]? = some (.cells #[.string ⟨#[]⟩, .int .u8 0, .string ⟨#[]⟩, .slice none 0 0, .slice none 0 0, .int .i64 0, .slice none 0 0, .slice none 0 0] 30 (0, 0)) := (hB6.block _ (by show _ < (w3.alloc _).heap.size; rw [World.size_alloc]; omega)).trans (HK.blk_new w3 _)
           have z0 : w6.cell? ⟨w3.heap.size, 0, none⟩ = some (.string ⟨#[]⟩) := HK.blk_cell hbx 0
           have z1 : w6.cell? ⟨w3.heap.size, 1, none⟩ = some (.int .u8 0) := HK.blk_cell hbx 1
           have z2 : w6.cell? ⟨w3.heap.size, 2, none⟩ = some (.string ⟨#[]⟩) := HK.blk_cell hbx 2
           have z3 : w6.cell? ⟨w3.heap.size, 3, none⟩ = some (.slice none 0 0) := HK.blk_cell hbx 3
           have z4 : w6.cell? ⟨w3.heap.size, 4, none⟩ = some (.slice none 0 0) := HK.blk_cell hbx 4
           have z5 : w6.cell? ⟨w3.heap.size, 5, none⟩ = some (.int .i64 0) := HK.blk_cell hbx 5
           have z6 : w6.cell? ⟨w3.heap.size, 6, none⟩ = some (.slice none 0 0) := HK.blk_cell hbx 6
           have z7 : w6.cell? ⟨w3.heap.size, 7, none⟩ = some (.slice none 0 0) := HK.blk_cell hbx 7
           have zf := fun i => HK.blk_frozen hbx i
           have HX6 := Lib.hid hbx
           have HQ6 := Lib.hid hq6
           have HB6 := Lib.hid ((bl_ad w3 _).trans (hB6.mono (bl_ad w3 _).size))
           clear hbx hq6 hB6)
        | (go_simp
           go_at_call 46
           with_reducible refine (HR3.out w3.drew (bl_d _)).mono ?_
           rintro e w6 ⟨⟨ta', tn', tc'⟩, rfl, hq6, hB6⟩
           have HQ6 := Lib.hid hq6
           have HB6 := Lib.hid ((bl_d w3).trans (hB6.mono (bl_d w3).size))
           clear hq6 hB6)))
    all_goals (
      simp only [Exit.inBlock, Exit.then]
      go_simp
      go_step
      go_meet)
    all_goals first
      | (have hlx := HK.blk_lt HX6.out
         have hz6 := HB6.out.size
         have hF8 := set8_frm w6 w3.heap.size (.string vq) (.int .u8 vo) (.string vn2) (.slice ja jn jc) (.slice la ln lc) (.int .i64 vl) (.slice ta' tn' tc') (.slice pa pn pc)
         have hz8 := hF8.size
         exact ⟨w3.heap.size, ⟨ta', tn', tc'⟩, rfl, rfl, set8 HX6.out _ _ _ _ _ _ _ _, HQ6.out.turn (fun b hb => by
           have h9 : (w3.alloc (.cells #[.string ⟨#[]⟩, .int .u8 0, .string ⟨#[]⟩, .slice none 0 0, .slice none 0 0, .int .i64 0, .slice none 0 0, .slice none 0 0] 30)).drew.heap.size = w3.heap.size + 1 := by show (w3.alloc _).heap.size = _; simp
           have h8 := HB3.out.size
           rcases hb with hb | ⟨hb1, hb2⟩
           · exact ⟨.inl hb, hF8.block b (by omega) (by omega)⟩
           · exact ⟨.inr ⟨by omega, by omega⟩, hF8.block b hb2 (by omega)⟩), HB6.out.trans (hF8.below (B := w3.heap.size) (by omega) (fun b e => by omega)), Nat.le_refl _, by omega⟩)
      | (have hz6 := HB6.out.size
         exact ⟨w6.heap.size, ⟨ta', tn', tc'⟩, rfl, rfl, HK.blk_new _ _, HQ6.out.turn (fun b hb => by
           have h9 : w3.drew.heap.size = w3.heap.size := rfl
           have h8 := HB3.out.size
           rcases hb with hb | ⟨hb1, hb2⟩
           · exact ⟨.inl hb, Below.heap_alloc w6 _ b (by omega)⟩
           · exact ⟨.inr ⟨by omega, by simp; omega⟩, Below.heap_alloc w6 _ b hb2⟩), HB6.out.alloc hz6 _, hz6, by simp⟩)
  case rest =>
    obtain ⟨B, ⟨ta', tn', tc'⟩, rfl, rfl, hBx, hQx, hBl, hB1, hB2⟩ := hcut
    have hzw := HB3.out.size
    have hz3 := HZ3.out
    have hpb := (hBl.block _ (by omega)).trans K0.out
    have hrb := (hBl.block _ (by omega)).trans K2.out
    have z0 : wc.cell? ⟨w.heap.size + 2, 0, none⟩ = some (.string ⟨#[]⟩) := HK.blk_cell hrb 0
    have z1 : wc.cell? ⟨w.heap.size + 2, 1, none⟩ = some (.int .u8 0) := HK.blk_cell hrb 1
    have z2 : wc.cell? ⟨w.heap.size + 2, 2, none⟩ = some (.string ⟨#[]⟩) := HK.blk_cell hrb 2
    have z3 : wc.cell? ⟨w.heap.size + 2, 3, none⟩ = some (.slice none 0 0) := HK.blk_cell hrb 3
    have z4 : wc.cell? ⟨w.heap.size + 2, 4, none⟩ = some (.slice none 0 0) := HK.blk_cell hrb 4
    have z5 : wc.cell? ⟨w.heap.size + 2, 5, none⟩ = some (.int .i64 0) := HK.blk_cell hrb 5
    have z6 : wc.cell? ⟨w.heap.size + 2, 6, none⟩ = some (.slice none 0 0) := HK.blk_cell hrb 6
    have z7 : wc.cell? ⟨w.heap.size + 2, 7, none⟩ = some (.slice none 0 0) := HK.blk_cell hrb 7
    have zf := fun i => HK.blk_frozen hrb i
    have HPB := Lib.hid hpb
    have HRBX := Lib.hid hrb
    have HBX := Lib.hid hBx
    have HQX := Lib.hid hQx
    have HBL := Lib.hid hBl
    have HBW := Lib.hid (HB3.out.trans (hBl.mono hzw))
    clear u0 u1 u2 u3 u4 u5 u6 u7 y0 y1 y2 y3 y4 y5 y6 y7 a6 c1 c0' hA2 HR2 hrb hBx hQx hBl
    cases r with
    | none =>
      have hr0 := HRB.out
      simp only [Option.isSome_none] at hr0
      subst hr0
      clear hpb
      go_wp2_with (fail)
      have hF8 := set8_frm wc (w.heap.size + 2) (.string ⟨#[]⟩) (.int .u8 0) (.string ⟨#[]⟩) (.slice none 0 0) (.slice none 0 0) (.int .i64 0) (.slice none 0 0) (.slice none 0 0)
      refine bodyPost_ret (results_row_tmp (p := 6) (u := 7) (by kernel_rfl) _ _ (w.heap.size + 2) 30 _ (0, 0) _ (.bool false) rfl rfl (set8 (b := w.heap.size + 2) HRBX.out _ _ _ _ _ _ _ _) Try.underlying30 rfl (by kernel_rfl)) rfl ?_
      have h2 := HBW.out.size
      exact ⟨SL.nil, rfl, .nil _ _, HBW.out.trans (hF8.below (B := w.heap.size) (by omega) (fun b e => by omega))⟩
    | some q' =>
      have hr0 := HRB.out
      simp only [Option.isSome_some] at hr0
      subst hr0
      have p0 : wc.cell? ⟨w.heap.size, 0, none⟩ = some (.string rule) := HK.blk_cell hpb 0
      have p1 : wc.cell? ⟨w.heap.size, 1, none⟩ = some (.int .u8 op) := HK.blk_cell hpb 1
      have p2 : wc.cell? ⟨w.heap.size, 2, none⟩ = some (.string name) := HK.blk_cell hpb 2
      have p3 : wc.cell? ⟨w.heap.size, 3, none⟩ = some (.slice aa an ac) := HK.blk_cell hpb 3
      have p4 : wc.cell? ⟨w.heap.size, 4, none⟩ = some (.slice fa fn fc) := HK.blk_cell hpb 4
      have p5 : wc.cell? ⟨w.heap.size, 5, none⟩ = some (.int .i64 label) := HK.blk_cell hpb 5
      have p6 : wc.cell? ⟨w.heap.size, 6, none⟩ = some (.slice (some ⟨g2, o2g, none⟩) tn tc) := HK.blk_cell hpb 6
      have p7 : wc.cell? ⟨w.heap.size, 7, none⟩ = some (.slice ma mn mc) := HK.blk_cell hpb 7
      have pf := fun i => HK.blk_frozen hpb i
      clear hpb
      obtain ⟨xs, hxs, hxq, hxc⟩ := ps_flat (HS.out.same fun b hb => HBW.out.block b (by omega))
      have hxl : xs.length = tn := by rw [HTN.out, ← hxs, List.length_map]
      have hcl := clone61 wc g2 o2g tc xs (by omega) hxc (by intro e; rw [e] at hxl; simp at hxl; have := HIL.out; rw [← HTN.out] at this; omega)
      rw [hxl] at hcl
      have HCL := Lib.hid hcl
      have HXS := Lib.hid hxs
      have HXQ := Lib.hid hxq
      have HXL := Lib.hid hxl
      clear hxs hxq hxc hxl hcl
      have HPB2 := HPB
      go_wp2_with (
        (go_at_call 61
         refine HCL.out.mono ?_
         rintro e w8 ⟨g8, c8, rfl, hown8, hB8⟩
         have h8p := (hB8.block _ (HK.blk_lt HPB.out)).trans HPB.out
         have h8b := (hB8.block _ (HK.blk_lt HBX.out)).trans HBX.out
         have h8r := (hB8.block _ (HK.blk_lt HRBX.out)).trans HRBX.out
         have hg8 := (hown8.lt g8 rfl).1
         have hlp := HK.blk_lt HPB.out
         have hlb := HK.blk_lt HBX.out
         have hlr := HK.blk_lt HRBX.out
         have n1 : g8 ≠ w.heap.size := by omega
         have n2 : w.heap.size ≠ g8 := by omega
         have n3 : g8 ≠ w.heap.size + 2 := by omega
         have n4 : w.heap.size + 2 ≠ g8 := by omega
         have n5 : B ≠ w.heap.size := by omega
         have n6 : w.heap.size ≠ B := by omega
         obtain ⟨cur, hcur, hfill, hcsz⟩ := own_fill hown8
         have hil := HIL.out
         rw [← HTN.out] at hil
         rw [HXL.out] at hcsz
         have p0 : w8.cell? ⟨w.heap.size, 0, none⟩ = some (.string rule) := HK.blk_cell h8p 0
         have p1 : w8.cell? ⟨w.heap.size, 1, none⟩ = some (.int .u8 op) := HK.blk_cell h8p 1
         have p2 : w8.cell? ⟨w.heap.size, 2, none⟩ = some (.string name) := HK.blk_cell h8p 2
         have p3 : w8.cell? ⟨w.heap.size, 3, none⟩ = some (.slice aa an ac) := HK.blk_cell h8p 3
         have p4 : w8.cell? ⟨w.heap.size, 4, none⟩ = some (.slice fa fn fc) := HK.blk_cell h8p 4
         have p5 : w8.cell? ⟨w.heap.size, 5, none⟩ = some (.int .i64 label) := HK.blk_cell h8p 5
         have p6 : w8.cell? ⟨w.heap.size, 6, none⟩ = some (.slice (some ⟨g2, o2g, none⟩) tn tc) := HK.blk_cell h8p 6
         have p7 : w8.cell? ⟨w.heap.size, 7, none⟩ = some (.slice ma mn mc) := HK.blk_cell h8p 7
         have bb0 : w8.cell? ⟨B, 0, none⟩ = some (.string vq) := HK.blk_cell h8b 0
         have bb1 : w8.cell? ⟨B, 1, none⟩ = some (.int .u8 vo) := HK.blk_cell h8b 1
         have bb2 : w8.cell? ⟨B, 2, none⟩ = some (.string vn2) := HK.blk_cell h8b 2
         have bb3 : w8.cell? ⟨B, 3, none⟩ = some (.slice ja jn jc) := HK.blk_cell h8b 3
         have bb4 : w8.cell? ⟨B, 4, none⟩ = some (.slice la ln lc) := HK.blk_cell h8b 4
         have bb5 : w8.cell? ⟨B, 5, none⟩ = some (.int .i64 vl) := HK.blk_cell h8b 5
         have bb6 : w8.cell? ⟨B, 6, none⟩ = some (.slice ta' tn' tc') := HK.blk_cell h8b 6
         have bb7 : w8.cell? ⟨B, 7, none⟩ = some (.slice pa pn pc) := HK.blk_cell h8b 7
         have z0 : w8.cell? ⟨w.heap.size + 2, 0, none⟩ = some (.string ⟨#[]⟩) := HK.blk_cell h8r 0
         have z1 : w8.cell? ⟨w.heap.size + 2, 1, none⟩ = some (.int .u8 0) := HK.blk_cell h8r 1
         have z2 : w8.cell? ⟨w.heap.size + 2, 2, none⟩ = some (.string ⟨#[]⟩) := HK.blk_cell h8r 2
         have z3 : w8.cell? ⟨w.heap.size + 2, 3, none⟩ = some (.slice none 0 0) := HK.blk_cell h8r 3
         have z4 : w8.cell? ⟨w.heap.size + 2, 4, none⟩ = some (.slice none 0 0) := HK.blk_cell h8r 4
         have z5 : w8.cell? ⟨w.heap.size + 2, 5, none⟩ = some (.int .i64 0) := HK.blk_cell h8r 5
         have z6 : w8.cell? ⟨w.heap.size + 2, 6, none⟩ = some (.slice none 0 0) := HK.blk_cell h8r 6
         have z7 : w8.cell? ⟨w.heap.size + 2, 7, none⟩ = some (.slice none 0 0) := HK.blk_cell h8r 7
         obtain ⟨q0, ho0⟩ : ∃ u, cur[i * 8]? = some u := ⟨_, Array.getElem?_eq_getElem (by omega)⟩
         have e0 : w8.cell? ⟨g8, i * 8, none⟩ = some q0 := (HK.blk_cell hcur _).trans ho0
         obtain ⟨q1, ho1⟩ : ∃ u, cur[i * 8 + 1]? = some u := ⟨_, Array.getElem?_eq_getElem (by omega)⟩
         have e1 : w8.cell? ⟨g8, i * 8 + 1, none⟩ = some q1 := (HK.blk_cell hcur _).trans ho1
         obtain ⟨q2, ho2⟩ : ∃ u, cur[i * 8 + 2]? = some u := ⟨_, Array.getElem?_eq_getElem (by omega)⟩
         have e2 : w8.cell? ⟨g8, i * 8 + 2, none⟩ = some q2 := (HK.blk_cell hcur _).trans ho2
         obtain ⟨q3, ho3⟩ : ∃ u, cur[i * 8 + 3]? = some u := ⟨_, Array.getElem?_eq_getElem (by omega)⟩
         have e3 : w8.cell? ⟨g8, i * 8 + 3, none⟩ = some q3 := (HK.blk_cell hcur _).trans ho3
         obtain ⟨q4, ho4⟩ : ∃ u, cur[i * 8 + 4]? = some u := ⟨_, Array.getElem?_eq_getElem (by omega)⟩
         have e4 : w8.cell? ⟨g8, i * 8 + 4, none⟩ = some q4 := (HK.blk_cell hcur _).trans ho4
         obtain ⟨q5, ho5⟩ : ∃ u, cur[i * 8 + 5]? = some u := ⟨_, Array.getElem?_eq_getElem (by omega)⟩
         have e5 : w8.cell? ⟨g8, i * 8 + 5, none⟩ = some q5 := (HK.blk_cell hcur _).trans ho5
         obtain ⟨q6, ho6⟩ : ∃ u, cur[i * 8 + 6]? = some u := ⟨_, Array.getElem?_eq_getElem (by omega)⟩
         have e6 : w8.cell? ⟨g8, i * 8 + 6, none⟩ = some q6 := (HK.blk_cell hcur _).trans ho6
         obtain ⟨q7, ho7⟩ : ∃ u, cur[i * 8 + 7]? = some u := ⟨_, Array.getElem?_eq_getElem (by omega)⟩
         have e7 : w8.cell? ⟨g8, i * 8 + 7, none⟩ = some q7 := (HK.blk_cell hcur _).trans ho7
         have pf8 := fun i => HK.blk_frozen h8p i
         have rf8 := fun i => HK.blk_frozen h8r i
         have gf8 := fun i => HK.blk_frozen hcur i
         have HP8 := Lib.hid h8p
         have HR8 := Lib.hid h8r
         have HC8 := Lib.hid hcur
         have HF8 := Lib.hid hfill
         have HZ8 := Lib.hid hcsz
         have HB8 := Lib.hid hB8
         have HG8 := Lib.hid hg8
         clear h8p h8b h8r hown8 hcur hfill hcsz hB8 ho0 ho1 ho2 ho3 ho4 ho5 ho6 ho7))
      obtain ⟨wA, hwA⟩ : ∃ wA, wA = w8.setCell ⟨w.heap.size, 6, none⟩ (.slice (some ⟨g8, 0, none⟩) tn c8) := ⟨_, rfl⟩
      have hFA : HK.Frm (· = w.heap.size) w8 wA := by rw [hwA]; exact HK.Frm.setCell (p := ⟨w.heap.size, 6, none⟩) (HK.Frm.refl (· = w.heap.size) w8) (.inl rfl) _
      have hFB := set8at_frm wA g8 (i * 8) (.string vq) (.int .u8 vo) (.string vn2) (.slice ja jn jc) (.slice la ln lc) (.int .i64 vl) (.slice ta' tn' tc') (.slice pa pn pc)
      have hB1' := set8at (o := i * 8) (hFA.heap HC8.out n1) (.string vq) (.int .u8 vo) (.string vn2) (.slice ja jn jc) (.slice la ln lc) (.int .i64 vl) (.slice ta' tn' tc') (.slice pa pn pc)
      obtain ⟨wB, hwB⟩ : ∃ wB, wB = ((((((((wA.setCell ⟨g8, i * 8, none⟩ (.string vq)).setCell ⟨g8, i * 8 + 1, none⟩ (.int .u8 vo)).setCell ⟨g8, i * 8 + 2, none⟩ (.string vn2)).setCell ⟨g8, i * 8 + 3, none⟩ (.slice ja jn jc)).setCell ⟨g8, i * 8 + 4, none⟩ (.slice la ln lc)).setCell ⟨g8, i * 8 + 5, none⟩ (.int .i64 vl)).setCell ⟨g8, i * 8 + 6, none⟩ (.slice ta' tn' tc')).setCell ⟨g8, i * 8 + 7, none⟩ (.slice pa pn pc)) := ⟨_, rfl⟩
      rw [← hwB] at hFB hB1'
      rw [← hwA, ← hwB]
      clear hwA hwB
      have hR0 := hFB.heap (hFA.heap HR8.out (by omega)) n4
      have hFC := set8_frm wB (w.heap.size + 1 + 1) (.string rule) (.int .u8 op) (.string name) (.slice aa an ac) (.slice fa fn fc) (.int .i64 label) (.slice (some ⟨g8, 0, none⟩) tn c8) (.slice ma mn mc)
      have hg3 := hFC.heap hB1' n3
      have zA := hFA.size
      have zB := hFB.size
      have zC := hFC.size
      have z8 := HB8.out.size
      have zW := HBW.out.size
      have z3 := HZ3.out
      have zL := HBL.out.size
      have zg := HG8.out
      have zgl := HK.blk_lt HC8.out
      refine bodyPost_ret (results_row_tmp (p := 6) (u := 7) (by kernel_rfl) _ _ (w.heap.size + 1 + 1) 30 _ (0, 0) _ (.bool true) rfl rfl (set8 (b := w.heap.size + 1 + 1) hR0 _ _ _ _ _ _ _ _) Try.underlying30 rfl (by kernel_rfl)) rfl ?_
      have hqq : PT.node vq ⟨vo, vn2, ⟨ja, jn, jc⟩, ⟨la, ln, lc⟩, vl, ⟨pa, pn, pc⟩⟩ vs = q' := HRR.out
      have keep : ∀ b, b < wc.heap.size → b ≠ w.heap.size → b ≠ w.heap.size + 1 + 1 → ((((((((wB.setCell ⟨w.heap.size + 1 + 1, 0, none⟩ (.string rule)).setCell ⟨w.heap.size + 1 + 1, 1, none⟩ (.int .u8 op)).setCell ⟨w.heap.size + 1 + 1, 2, none⟩ (.string name)).setCell ⟨w.heap.size + 1 + 1, 3, none⟩ (.slice aa an ac)).setCell ⟨w.heap.size + 1 + 1, 4, none⟩ (.slice fa fn fc)).setCell ⟨w.heap.size + 1 + 1, 5, none⟩ (.int .i64 label)).setCell ⟨w.heap.size + 1 + 1, 6, none⟩ (.slice (some ⟨g8, 0, none⟩) tn c8)).setCell ⟨w.heap.size + 1 + 1, 7, none⟩ (.slice ma mn mc)).heap[b]? = wc.heap[b]? := fun b h1 h2 h3 => by
        rw [hFC.block b (by omega) h3, hFB.block b (by omega) (by omega), hFA.block b (by omega) h2, HB8.out.block b h1]
      have hset : (xs.set i (PT.node vq ⟨vo, vn2, ⟨ja, jn, jc⟩, ⟨la, ln, lc⟩, vl, ⟨pa, pn, pc⟩⟩ vs, (⟨ta', tn', tc'⟩ : SL))).map (·.1) = subs.set i q' := by
        rw [List.map_set, HXS.out, hqq]
      refine ⟨⟨some ⟨g8, 0, none⟩, tn, c8⟩, rfl, ?_, ?_⟩
      · simp only [Option.map_some, Option.getD_some, PT.subs]
        rw [← hset]
        have hil := HIL.out
        rw [← HTN.out] at hil
        refine fill_pq hg3 (HF8.out.set (by rw [HXL.out]; exact HZ8.out) (by rw [HXL.out]; exact hil) _ ⟨ta', tn', tc'⟩ rfl) (by rw [List.length_set, HXL.out]) (.inr ⟨by omega, by omega⟩) (fun x hx => ?_)
        rcases List.mem_or_eq_of_mem_set hx with hx | rfl
        · exact (HXQ.out x hx).pq.turn fun b hb => ⟨.inl hb, keep b (by omega) (by omega) (by omega)⟩
        · exact HQX.out.turn fun b hb => by
            rcases hb with hb | ⟨hb1, hb2⟩
            · exact ⟨.inl hb, keep b (by omega) (by omega) (by omega)⟩
            · exact ⟨.inr ⟨by omega, by omega⟩, keep b hb2 (by omega) (by omega)⟩
      · exact HBW.out.trans ((HB8.out.mono (by omega)).trans ((hFA.below (B := w.heap.size) (by omega) (fun b e => by omega)).trans ((hFB.below (B := w.heap.size) (by omega) (fun b e => by omega)).trans (hFC.below (B := w.heap.size) (by omega) (fun b e => by omega)))))
end Go.Proofs.Ytfebcpmbkljaoaa
