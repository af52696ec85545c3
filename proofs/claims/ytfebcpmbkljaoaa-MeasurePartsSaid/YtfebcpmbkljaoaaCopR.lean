/- The kit's Copy functions at proofs with their data. -/
import Derived.Test.YtfebcpmbkljaoaaSamR
import Derived.Test.YtfebcpmbkljaoaaAt
import Derived.Test.YtfebcpmbkljaoaaSmal
namespace Go.Proofs.Ytfebcpmbkljaoaa
open Go.RowKit Go.HR
set_option linter.unusedVariables false
set_option linter.unusedSimpArgs false
set_option linter.unusedSectionVars false
theorem run_app_nil {P : Program} {w : World} {t ty e size bytes : Nat} (E : HK.ElemOk P t e size bytes) (xa : Option Addr) (c : Nat) : (Builtin.append_ #[t, t] ty #[.slice none 0 0, .slice xa 0 c]).run P w = .ok (.slice none 0 0) w := by
  obtain ⟨ht, i, z, hi, h0, h2, h3, h4, h5⟩ := E
  cases xa <;> simp [Builtin.append_, run_underlying ht, sizeOf, typeInfo, hi, Builtin.lenOf, Builtin.firstCells, storeCells, loadCells, loadCellsFrom]
theorem step_app_nil {P : Program} {w : World} {ops : Array Oper} {o : Oper} {a : Act} {Q : Exit → Act → World → Prop} {K : Act → World → Prop} {R : Prop} (d : Nat) (hd : o.dst = some d) (hgd : o.guard = none) {t e size bytes : Nat} (E : HK.ElemOk P t e size bytes) (s x : Operand)
    (ho : o.op = .call { callee := .builtin .append, args := #[s, x], argTypes := #[t, t] }) (hs : a.eval s = .slice none 0 0) (ad : Option Addr) (c : Nat) (hx : a.eval x = .slice ad 0 c)
    (h : K (a.put o.dst (.slice none 0 0)) w) : if Region.wanted o (yielded ops a.tmps) = true then Oper.wp P o a w K Q else R := by
  rw [if_pos (by simp [Region.wanted, hgd])]
  have hr := run_app_nil (w := w) (ty := o.type) E ad c
  unfold Oper.wp execOp
  simp only [ho, resolve, invoke, builtin, Sem.run_bind, Sem.run_pure, Result.andThen_ok, List.map_toArray, List.map_cons, List.map_nil, hs, hx, hr]
  exact h
set_option maxRecDepth 100000 in
set_option maxHeartbeats 4000000 in
/-- CopyInts. -/
theorem ints_copy (w : World) (s : SL) (xs : List Int) (h : IsIq (fun k => k < w.heap.size) w s xs) (hn : xs.length ≤ 20000) : Calls Try.prog 68 #[s.v] w fun e w' => ∃ s' : SL, e = .returned s'.v ∧ IsIq (Fresh w w') w' s' xs ∧ Below w.heap.size w w' := by
  obtain ⟨sa, n, c⟩ := s
  obtain ⟨h1, h2, h3⟩ := h
  simp only at h1 h2 h3
  simp only [SL.v]
  by_cases hn0 : n = 0
  · subst hn0
    have hx : xs = [] := List.length_eq_zero_iff.1 h1.symm
    subst hx
    clear h1 h2 h3
    go_enter Try.func68, Try.ntmps68
    go_wp2_with (
      refine wpList_step fun K hK => ?_
      refine step_app_nil 6 (by rfl) (by rfl) elem3 _ _ (by rfl) (by rfl) sa c (by rfl) ?_
      refine hK _ _ ?_
      clear hK K)
    go_ret
    exact ⟨SL.nil, rfl, ⟨rfl, Nat.zero_le _, .inl rfl⟩, Below.refl _ _⟩
  · obtain ⟨g, o, hh, hg, hc⟩ := h3.resolve_left (fun e => by rw [e] at h1; exact hn0 h1)
    subst hh
    have hc' : ∀ j u, (xs.map fun i : Int => (Value.int .i64 i))[j]? = some u → w.cell? ((⟨g, o, none⟩ : Addr).add j) = some u := fun j u hj => by
      rw [List.getElem?_map] at hj
      obtain ⟨x, hx, rfl⟩ := Option.map_eq_some_iff.1 hj
      have h6 := hc j x hx
      unfold Addr.add
      split
      · rename_i hj0; subst hj0; simpa using h6
      · exact h6
    have hn2 : n ≤ 20000 := by omega
    have hln : (xs.map fun i : Int => (Value.int .i64 i)).length = n := by rw [List.length_map, h1]
    clear h1 h2 h3 hc
    go_enter Try.func68, Try.ntmps68
    go_wp2_with (
      refine wpList_step fun K hK => ?_
      refine step_appm 6 (by rfl) (by rfl) elem3 _ _ (by rfl) (.slice none 0 0) 0 [] (by rfl) (World.ownsRow_nil _ _ _ _) ⟨g, o, none⟩ n c (xs.map fun i : Int => (Value.int .i64 i)) (by rfl) (by rw [hln]; omega) hc' (by intro u hu; simp at hu; obtain ⟨q, _, rfl⟩ := hu; simp [Value.oneCell']) n (Nat.zero_add n) (by omega) (by simp only [maxLen]; omega) (by omega) ?_
      intro g9 cap9 w1 hown1 hgrow hat hlt
      refine hK _ _ ?_
      have HO := Lib.hid hown1
      have HGR := Lib.hid hgrow
      have HAT := Lib.hid hat
      have HLT := Lib.hid hlt
      clear hown1 hgrow hat hlt hK K)
    go_ret
    have hb : Below w.heap.size w w1 := (Below.refl _ w).grown HGR.out (by simp) (fun k e => by cases e)
    have hg9 : w.heap.size ≤ g9 := by
      rcases HAT.out with h | h
      · cases h
      · rw [h]; exact Nat.le_refl _
    have ho := HO.out
    rw [List.nil_append] at ho
    exact ⟨⟨some ⟨g9, 0, none⟩, n, cap9⟩, rfl, isIq_own ho ⟨hg9, HLT.out⟩ (by simp only [maxLen]; omega), hb⟩
end Go.Proofs.Ytfebcpmbkljaoaa
namespace Go.Proofs.Ytfebcpmbkljaoaa
open Go.RowKit Go.HR
set_option linter.unusedVariables false
set_option linter.unusedSimpArgs false
set_option linter.unusedSectionVars false
/-- Blocks behind n, but for the row's own. -/
def OwnS (n : Nat) (v : Value) (W : World) : Nat → Prop := fun k => n ≤ k ∧ k < W.heap.size ∧ v.ownBlock ≠ some k
theorem OwnS.fresh {n e z m : Nat} {v : Value} {W W' : World} {xs : List Value} (h : W.ownsRow n e z v m xs) (hB : Below W.heap.size W W') (hn : n ≤ W.heap.size) : ∀ k, Fresh W W' k → OwnS n v W' k ∧ W'.heap[k]? = W'.heap[k]? := fun k hk =>
  ⟨⟨Nat.le_trans hn hk.1, hk.2, fun e => by have := (h.lt k e).2; have := hk.1; omega⟩, rfl⟩
theorem OwnS.call {n : Nat} {v : Value} {W W' : World} (hB : Below W.heap.size W W') : ∀ k, OwnS n v W k → OwnS n v W' k ∧ W'.heap[k]? = W.heap[k]? := fun k hk =>
  ⟨⟨hk.1, Nat.lt_of_lt_of_le hk.2.1 hB.size, hk.2.2⟩, hB.block k hk.2.1⟩
theorem OwnS.grown {n g m c : Nat} {v : Value} {W W' : World} (hg : W.grownBy W' v.ownBlock) (hat : v.ownBlock = some g ∨ g = W.heap.size) (hs : W.heap.size ≤ W'.heap.size) : ∀ k, OwnS n v W k → OwnS n (.slice (some ⟨g, 0, none⟩) m c) W' k ∧ W'.heap[k]? = W.heap[k]? := fun k hk =>
  ⟨⟨hk.1, Nat.lt_of_lt_of_le hk.2.1 hs, fun e => by
    simp only [Value.ownBlock, Option.some.injEq] at e
    rcases hat with h | h
    · exact hk.2.2 (by rw [h, e])
    · have := hk.2.1; omega⟩, hg.block k hk.2.1 fun e => hk.2.2 e.symm⟩
set_option maxRecDepth 100000 in
set_option maxHeartbeats 4000000 in
/-- CopyMarks. -/
theorem marks_copy (w : World) (s : SL) (xs : List (List Int)) (h : IsMq (fun k => k < w.heap.size) w s xs) (hn : xs.length ≤ 20000) (hu : ∀ u ∈ xs, u.length ≤ 20000) : Calls Try.prog 50 #[s.v] w fun e w' => ∃ s' : SL, e = .returned s'.v ∧ IsMq (Fresh w w') w' s' xs ∧ Below w.heap.size w w' := by
  obtain ⟨sa, n, c⟩ := s
  have hm := h.1
  simp only at hm
  simp only [SL.v]
  have hn2 : n ≤ 20000 := by omega
  have H := Lib.hid h
  have HN := Lib.hid hm
  have HU := Lib.hid hu
  clear h hm hu hn
  go_enter Try.func50, Try.ntmps50
  go_wp2_with (fail)
  go_loopw [3, 4] (fun v k wr => ∃ (m : Nat) (va : Option Addr) (vc : Nat) (ss : List SL), m ≤ n ∧ v = .slice va m vc ∧ k = .int .i64 m ∧ ss.length = m ∧ wr.ownsRow w.heap.size 37 1 (.slice va m vc) m (ss.map SL.v) ∧ (∀ (i : Nat) s u, ss[i]? = some s → xs[i]? = some u → IsIq (OwnS w.heap.size (.slice va m vc) wr) wr s u) ∧ Below w.heap.size w wr) (fun _ k _ => n - (intOf k).toNat)
  case atStart => exact ⟨0, none, 0, [], by omega, rfl, rfl, rfl, World.ownsRow_nil _ _ _ _, fun i s u hs => by simp at hs, Below.refl _ _⟩
  case round =>
    obtain ⟨m, va, vc, ss, hm, rfl, rfl, hss, hrow, hin, hB⟩ := hrel
    obtain ⟨wo, rfl⟩ : ∃ wo : World, wo = wr := ⟨_, rfl⟩
    by_cases h1 : m < n
    · obtain ⟨u, hu⟩ : ∃ u, xs[m]? = some u := ⟨_, List.getElem?_eq_getElem (by rw [← HN.out]; exact h1)⟩
      obtain ⟨g, o, hsa, hg, sl, hc⟩ := H.out.2.2.resolve_left (fun e => by rw [e] at hu; simp at hu)
      simp only at hsa
      subst hsa
      obtain ⟨e1, e2⟩ := hc m u hu
      have hcall := ints_copy wo (sl m) u (e2.turn fun k hk => ⟨Nat.lt_of_lt_of_le hk hB.size, hB.block k hk⟩) (HU.out u (List.mem_of_getElem? hu))
      generalize sl m = sm at e1 hcall
      obtain ⟨qa, qn, qc⟩ := sm
      simp only [SL.v] at e1 hcall
      have c1 : wo.cell? ⟨g, o + m, none⟩ = some (.slice qa qn qc) := cell_then e1 hB
      have b1 : (0 : Int) ≤ (m : Int) := by omega
      have b2 : (m : Int) < (n : Int) := by omega
      have HCL := Lib.hid hcall
      have HROW := Lib.hid hrow
      have HB := Lib.hid hB
      have HIN := Lib.hid hin
      have HSS := Lib.hid hss
      have HUU := Lib.hid hu
      clear hc e1 e2 hcall hrow hB hin hss hu
      go_wp2_with (first
        | (go_at_call 68
           refine HCL.out.mono ?_
           rintro e w5 ⟨⟨ra, rn, rc⟩, rfl, hq5, hB5⟩
           have hrow5 : w5.ownsRow w.heap.size 37 1 (.slice va m vc) m (ss.map SL.v) := own_below HROW.out hB5
           have HROW5 := Lib.hid hrow5
           have HQ5 := Lib.hid hq5
           have HB5 := Lib.hid hB5
           clear hrow5 hq5 hB5)
        | (at_builtin
           refine HK.wpList_app1 rfl elem37 _ _ rfl (.slice va m vc) m (ss.map SL.v) rfl (row_mono (HROW5.out.alloc _) (Nat.zero_le _)) w5.heap.size 1 #[.slice ra rn rc] rfl (HK.blk_new _ _) rfl (by simp [Value.oneCell']) (by simp only [maxLen]; omega) (by omega) ?_
           intro gg cap w7 hown7 hgrow hat hlt
           have HO7 := Lib.hid hown7
           have HG7 := Lib.hid hgrow
           have HA7 := Lib.hid hat
           have HL7 := Lib.hid hlt
           clear hown7 hgrow hat hlt))
      have hz := HB.out.size
      have hz5 := HB5.out.size
      have hn7 := own_next (W0 := w5.alloc (.cells #[.slice ra rn rc] 37)) HROW5.out (by simp; omega) HO7.out HA7.out
      have hb5 : Below w.heap.size w w5 := below_then HB.out HB5.out
      have hb7 : Below w.heap.size w w7 := (hb5.alloc (by omega) _).grown HG7.out (by simp; omega) (fun k e => (HROW5.out.lt k e).1)
      have hup : ∀ k, OwnS w.heap.size (.slice va m vc) w5 k → OwnS w.heap.size (.slice (some ⟨gg, 0, none⟩) (m + 1) cap) w7 k ∧ w7.heap[k]? = w5.heap[k]? := fun k hk => by
        obtain ⟨q1, q2⟩ := OwnS.call (bl_al (o := .cells #[.slice ra rn rc] 37) (Below.refl w5.heap.size w5)) k hk
        obtain ⟨q3, q4⟩ := OwnS.grown (m := m + 1) (c := cap) HG7.out HA7.out HG7.out.size k q1
        exact ⟨q3, q4.trans q2⟩
      have HUP := Lib.hid hup
      have HN7 := Lib.hid hn7
      have HB7 := Lib.hid hb7
      clear hup hn7 hb7 hb5
      go_roundw
      case rel =>
        refine ⟨m + 1, some ⟨gg, 0, none⟩, cap, ss ++ [⟨ra, rn, rc⟩], by omega, rfl, by go_num, by simp [HSS.out], by rw [List.map_append]; exact HN7.out, ?_, HB7.out⟩
        intro i s u' hs hu'
        by_cases hi : i < ss.length
        · rw [List.getElem?_append_left hi] at hs
          exact ((HIN.out i s u' hs hu').turn (OwnS.call HB5.out)).turn HUP.out
        · have hi2 : i = ss.length := by
            have := (List.getElem?_eq_some_iff.1 hs).1
            simp at this; omega
          subst hi2
          rw [List.getElem?_append_right (Nat.le_refl _), Nat.sub_self] at hs
          cases hs
          rw [HSS.out, HUU.out] at hu'
          cases hu'
          exact (HQ5.out.turn (OwnS.fresh HROW.out HB5.out hz)).turn HUP.out
      case measure => simp [intOf]; omega
    · obtain rfl : m = n := by omega
      have b1 : ¬ ((m : Int) < (m : Int)) := by omega
      have HROW := Lib.hid hrow
      have HB := Lib.hid hB
      have HIN := Lib.hid hin
      have HSS := Lib.hid hss
      clear hrow hB hin hss
      go_wp2_with (fail)
      go_ret
      refine ⟨⟨va, m, vc⟩, rfl, ⟨HN.out, by simp only [maxLen]; omega, ?_⟩, HB.out⟩
      by_cases h0 : m = 0
      · exact .inl (List.length_eq_zero_iff.1 (by rw [← HN.out]; exact h0))
      · obtain ⟨g, cap, hv, hg1, hg2⟩ := HROW.out.form (by omega)
        simp only [Value.slice.injEq] at hv
        obtain ⟨rfl, _⟩ := hv
        refine .inr ⟨g, 0, rfl, ⟨hg1, hg2⟩, fun i => (ss[i]?).getD SL.nil, fun i u hu => ?_⟩
        have hi : i < ss.length := by
          have := (List.getElem?_eq_some_iff.1 hu).1
          rw [HSS.out, HN.out]; exact this
        obtain ⟨s, hs⟩ : ∃ s, ss[i]? = some s := ⟨_, List.getElem?_eq_getElem hi⟩
        have hcell := HROW.out.cells (g := g) rfl i s.v (by rw [List.getElem?_map, hs]; rfl)
        rw [add_zero_at] at hcell
        rw [Nat.zero_add]
        simp only [hs, Option.getD_some]
        exact ⟨hcell, (HIN.out i s u hs hu).turn fun k hk => ⟨⟨hk.1, hk.2.1⟩, rfl⟩⟩
end Go.Proofs.Ytfebcpmbkljaoaa
namespace Go.Proofs.Ytfebcpmbkljaoaa
open Go.RowKit Go.HR
set_option linter.unusedVariables false
set_option linter.unusedSimpArgs false
set_option linter.unusedSectionVars false
theorem flat_rows {n : Nat} : ∀ {rows : List (List Value)} {i j : Nat} {r : List Value} {v : Value}, (∀ r ∈ rows, r.length = n) → rows[i]? = some r → r[j]? = some v → rows.flatten[i * n + j]? = some v
  | [], _, _, _, _, _, h, _ => by simp at h
  | r0 :: rs, 0, j, r, v, _, h, hv => by
    simp only [List.getElem?_cons_zero, Option.some.injEq] at h
    subst h
    rw [List.flatten_cons, Nat.zero_mul, Nat.zero_add, List.getElem?_append_left (List.getElem?_eq_some_iff.1 hv).1]
    exact hv
  | r0 :: rs, i + 1, j, r, v, hn, h, hv => by
    have hl := hn r0 (List.mem_cons_self ..)
    rw [List.flatten_cons, List.getElem?_append_right (by rw [hl, Nat.add_mul, Nat.one_mul]; omega), hl, show (i + 1) * n + j - n = i * n + j by rw [Nat.add_mul, Nat.one_mul]; omega]
    exact flat_rows (fun r hr => hn r (List.mem_cons_of_mem _ hr)) (by simpa using h) hv
theorem elem114 : HK.ElemOk Try.prog 23 114 3 48 := HK.ElemOk.mk' (z := .agg #[.bool false, .string ⟨#[]⟩, .slice none 0 0]) Try.underlying23 (by kernel_rfl) rfl (by decide)
set_option maxRecDepth 100000 in
set_option maxHeartbeats 2000000 in
theorem terms66_nil (w : World) (a : Option Addr) (c : Nat) : Calls Try.prog 66 #[.slice a 0 c] w fun e w' => e = .returned (.slice none 0 0) ∧ w' = w := by
  go_enter Try.func66, Try.ntmps66
  go_wp2_with (fail)
  go_loopw [3, 4] (fun v k wr => v = .slice none 0 0 ∧ k = .int .i64 0 ∧ wr = w) (fun _ _ _ => 0)
  case atStart => exact ⟨rfl, rfl, rfl⟩
  case round =>
    obtain ⟨rfl, rfl, rfl⟩ := hrel
    go_wp2_with (fail)
    go_ret
    exact ⟨rfl, rfl⟩
set_option maxRecDepth 100000 in
set_option maxHeartbeats 4000000 in
/-- CopyTerm at a term without arguments. -/
theorem term_copy (w : World) (b : Bool) (nm : ByteArray) (a : Option Addr) (c : Nat) : Calls Try.prog 79 #[.agg #[.bool b, .string nm, .slice a 0 c]] w fun e w' => e = .returned (.agg #[.bool b, .string nm, .slice none 0 0]) ∧ Below w.heap.size w w' := by
  have h0 := fun W => terms66_nil W a c
  have H0 := Lib.hid h0
  clear h0
  have hx : ((w.alloc (.cells #[.bool b, .string nm, .slice none 0 0] 114)).alloc (.cells #[.bool b, .string nm, .slice none 0 0] 114)).heap[w.heap.size + 1]? = some (.cells #[.bool b, .string nm, .slice none 0 0] 114 (0, 0)) := blk_new1 _ _ _
  have HX := Lib.hid hx
  clear hx
  go_enter Try.func79, Try.ntmps79
  go_wp2_with (go_at_call 66; (refine (H0.out _).mono ?_; rintro e w' ⟨rfl, rfl⟩))
  refine bodyPost_ret (results_cell_row (p := 2) (ty := 114) (by kernel_rfl) _ _ (w.heap.size + 1) 114 _ (0, 0) _ rfl HX.out Try.underlying114 rfl (by kernel_rfl)) rfl ?_
  exact ⟨rfl, bl_al (bl_al (Below.refl _ _))⟩
set_option maxRecDepth 100000 in
set_option maxHeartbeats 4000000 in
/-- CopyTerms. -/
theorem terms_copy (w : World) (s : SL) (xs : List TT) (h : IsTs (fun k => k < w.heap.size) w s xs) (hf : ∀ t ∈ xs, t.args = []) (hn : xs.length ≤ 20000) : Calls Try.prog 66 #[s.v] w fun e w' => ∃ s' : SL, e = .returned s'.v ∧ IsTs (Fresh w w') w' s' xs ∧ Below w.heap.size w w' := by
  obtain ⟨sa, n, c⟩ := s
  have hm := h.len
  simp only at hm
  simp only [SL.v]
  have hn2 : n ≤ 20000 := by omega
  have H := Lib.hid h
  have HN := Lib.hid hm
  have HF := Lib.hid hf
  clear h hm hf hn
  go_enter Try.func66, Try.ntmps66
  go_wp2_with (fail)
  go_loopw [3, 4] (fun v k wr => ∃ (m : Nat) (va : Option Addr) (vc : Nat), m ≤ n ∧ v = .slice va m vc ∧ k = .int .i64 m ∧ wr.ownsRow w.heap.size 114 3 (.slice va m vc) m ((xs.take m).map rowT).flatten ∧ Below w.heap.size w wr) (fun _ k _ => n - (intOf k).toNat)
  case atStart => exact ⟨0, none, 0, by omega, rfl, rfl, World.ownsRow_nil _ _ _ _, Below.refl _ _⟩
  case round =>
    obtain ⟨m, va, vc, hm, rfl, rfl, hrow, hB⟩ := hrel
    obtain ⟨wo, rfl⟩ : ∃ wo : World, wo = wr := ⟨_, rfl⟩
    by_cases h1 : m < n
    · obtain ⟨t, ht⟩ : ∃ t, xs[m]? = some t := ⟨_, List.getElem?_eq_getElem (by rw [← HN.out]; exact h1)⟩
      have hta := HF.out t (List.mem_of_getElem? ht)
      obtain ⟨g, o, s', rfl, _, hc, hts⟩ := tsAt (H.out.up hB) ht
      have hl0 := hts.len
      rw [hta] at hl0
      have hrow' : rowT t = [.bool t.b, .string t.nm, .slice none 0 0] := rfl
      have htk : (xs.take (m + 1)).map rowT = (xs.take m).map rowT ++ [rowT t] := by rw [List.take_add_one, ht]; simp
      obtain ⟨tb, tn, tas⟩ := t
      obtain ⟨qa, qn, qc⟩ := s'
      simp only [List.length_nil] at hl0
      subst hl0
      simp only [TT.vals, TT.b, TT.nm, SL.v] at hc hrow'
      have c0 : wo.cell? ⟨g, o + m * 3, none⟩ = some (.bool tb) := hc 0 _ rfl
      have c1 : wo.cell? ⟨g, o + m * 3 + 1, none⟩ = some (.string tn) := hc 1 _ rfl
      have c2 : wo.cell? ⟨g, o + m * 3 + 2, none⟩ = some (.slice qa 0 qc) := hc 2 _ rfl
      have hcall := term_copy wo tb tn qa qc
      have b1 : (0 : Int) ≤ (m : Int) := by omega
      have b2 : (m : Int) < (n : Int) := by omega
      have HCL := Lib.hid hcall
      have HROW := Lib.hid hrow
      have HB := Lib.hid hB
      have HTK := Lib.hid htk
      have HRT := Lib.hid hrow'
      clear hc hcall hrow hB htk hrow' hta hts ht
      go_wp2_with (first
        | (go_at_call 79
           refine HCL.out.mono ?_
           rintro e w5 ⟨rfl, hB5⟩
           have hrow5 := own_below HROW.out hB5
           have HROW5 := Lib.hid hrow5
           have HB5 := Lib.hid hB5
           clear hrow5 hB5)
        | (at_builtin
           refine HK.wpList_app1 rfl elem114 _ _ rfl (.slice va m vc) m ((xs.take m).map rowT).flatten rfl (row_mono ((HROW5.out.alloc _).alloc _) (Nat.zero_le _)) (w5.heap.size + 1) 1 #[.bool tb, .string tn, .slice none 0 0] rfl (blk_new1 _ _ _) rfl (by simp [Value.oneCell']) (by simp only [maxLen]; omega) (by omega) ?_
           intro gg cap w7 hown7 hgrow hat hlt
           have HO7 := Lib.hid hown7
           have HG7 := Lib.hid hgrow
           have HA7 := Lib.hid hat
           have HL7 := Lib.hid hlt
           clear hown7 hgrow hat hlt))
      have hz := HB.out.size
      have hz5 := HB5.out.size
      have hn7 := own_next (W0 := (w5.alloc (.cells #[.bool tb, .string tn, .slice none 0 0] 114)).alloc (.cells #[.bool tb, .string tn, .slice none 0 0] 114)) HROW5.out (by simp; omega) HO7.out HA7.out
      have hb5 : Below w.heap.size w w5 := below_then HB.out HB5.out
      have hb7 : Below w.heap.size w w7 := ((hb5.alloc (by omega) _).alloc (by simp; omega) _).grown HG7.out (by simp; omega) (fun k e => (HROW5.out.lt k e).1)
      have HN7 := Lib.hid hn7
      have HB7 := Lib.hid hb7
      clear hn7 hb7 hb5
      go_roundw
      case rel =>
        refine ⟨m + 1, some ⟨gg, 0, none⟩, cap, by omega, rfl, by go_num, ?_, HB7.out⟩
        rw [HTK.out, List.flatten_append, HRT.out]
        exact HN7.out
      case measure => simp [intOf]; omega
    · obtain rfl : m = n := by omega
      have b1 : ¬ ((m : Int) < (m : Int)) := by omega
      have HROW := Lib.hid hrow
      have HB := Lib.hid hB
      clear hrow hB
      go_wp2_with (fail)
      go_ret
      refine ⟨⟨va, m, vc⟩, rfl, ?_, HB.out⟩
      by_cases h0 : m = 0
      · have hx : xs = [] := List.length_eq_zero_iff.1 (by rw [← HN.out]; exact h0)
        rw [hx, h0]
        exact .nil _ _
      · obtain ⟨g, cap, hv, hg1, hg2⟩ := HROW.out.form (by omega)
        simp only [Value.slice.injEq] at hv
        obtain ⟨rfl, _⟩ := hv
        have hrw := HROW.out
        rw [List.take_of_length_le (by rw [← HN.out]; exact Nat.le_refl _)] at hrw
        have hmx : m = xs.length := HN.out
        have hgo := IsTs.row (S := Fresh w wo) (W := wo) g 0 vc xs (fun _ => SL.nil) ⟨hg1, hg2⟩ (by simp only [maxLen]; omega) (fun i t ht j v hv => by
          have hcell := hrw.cells (g := g) rfl (i * 3 + j) v (flat_rows (n := 3) (fun r hr => by obtain ⟨t, _, rfl⟩ := List.mem_map.1 hr; rfl) (by rw [List.getElem?_map, ht]; rfl : (xs.map rowT)[i]? = some (rowT t)) hv)
          rw [add_zero_at] at hcell
          rw [Nat.zero_add]
          exact hcell) (fun i t ht => by rw [HF.out t (List.mem_of_getElem? ht)]; exact .nil none 0)
        rw [← hmx] at hgo
        exact hgo
end Go.Proofs.Ytfebcpmbkljaoaa
namespace Go.Proofs.Ytfebcpmbkljaoaa
open Go.RowKit Go.HR
set_option linter.unusedVariables false
set_option linter.unusedSimpArgs false
set_option linter.unusedSectionVars false
def FormK (f : FT) : Prop := ∀ (a s : SL) (w : World), IsTs (fun k => k < w.heap.size) w a f.args → IsFs (fun k => k < w.heap.size) w s f.subs → Calls Try.prog 48 #[.agg #[.int .u8 f.op, .string f.nm, a.v, s.v]] w (RetF w f)
def FormsK (fs : List FT) : Prop := ∀ (s : SL) (w : World), IsFs (fun k => k < w.heap.size) w s fs → Calls Try.prog 67 #[s.v] w fun e w' => ∃ s' : SL, e = .returned s'.v ∧ IsFs (Fresh w w') w' s' fs ∧ Below w.heap.size w w'
theorem elem26f : HK.ElemOk Try.prog 24 26 4 72 := HK.ElemOk.mk' (z := .agg #[.int .u8 0, .string ⟨#[]⟩, .slice none 0 0, .slice none 0 0]) Try.underlying24 (by kernel_rfl) rfl (by decide)
set_option maxRecDepth 100000 in
set_option maxHeartbeats 8000000 in
theorem form_copy_of (f : FT) (hfl : flatF f) (he : FormsK f.subs) : FormK f := by
  intro a s w hta hfs
  have h76 := fun (W : World) (hB : Below w.heap.size w W) => terms_copy W a f.args (hta.up hB) (by cases f; exact hfl.1) (by cases f; exact hfl.2.1)
  have h78 := fun (W : World) (hB : Below w.heap.size w W) => he s W (hfs.up hB)
  obtain ⟨f0, hf0⟩ : ∃ f0, f0 = f := ⟨_, rfl⟩
  rw [← hf0] at h76 h78 ⊢
  obtain ⟨op, nm, args, subs⟩ := f
  have hop : f0.op = op := by rw [hf0]; rfl
  have hnm : f0.nm = nm := by rw [hf0]; rfl
  rw [hop, hnm]
  obtain ⟨aa, an, ac⟩ := a
  obtain ⟨sa, sn, sc⟩ := s
  simp only [SL.v] at h76 h78 ⊢
  have H76 := Lib.hid h76
  have H78 := Lib.hid h78
  have HOP := Lib.hid hop
  have HNM := Lib.hid hnm
  clear h76 h78 hta hfs hfl he hf0 hop hnm
  obtain ⟨w1, hw1⟩ : ∃ w1, w1 = (w.alloc (.cells #[.int .u8 op, .string nm, .slice aa an ac, .slice sa sn sc] 26)).alloc (.cells #[.int .u8 0, .string ⟨#[]⟩, .slice none 0 0, .slice none 0 0] 26) := ⟨_, rfl⟩
  obtain ⟨G, hG⟩ : ∃ G, G = w.heap.size := ⟨_, rfl⟩
  obtain ⟨R, hR⟩ : ∃ R, R = w.heap.size + 1 := ⟨_, rfl⟩
  have hB1 : Below w.heap.size w w1 := by rw [hw1]; exact bl_al (bl_al (Below.refl _ _))
  have hx1 : w1.heap[G]? = some (.cells #[.int .u8 op, .string nm, .slice aa an ac, .slice sa sn sc] 26 (0, 0)) := by rw [hw1, hG]; exact HK.blk_alloc (HK.blk_new _ _) _
  have hr1 : w1.heap[R]? = some (.cells #[.int .u8 0, .string ⟨#[]⟩, .slice none 0 0, .slice none 0 0] 26 (0, 0)) := by rw [hw1, hR]; exact blk_new1 _ _ _
  have hRG : R = G + 1 := by omega
  have hwG : w.heap.size = G := hG.symm
  have x2 : w1.cell? ⟨G, 2, none⟩ = some (.slice aa an ac) := HK.blk_cell hx1 2
  have HB1 := Lib.hid hB1
  have HX1 := Lib.hid hx1
  have HR1 := Lib.hid hr1
  have HW1 := Lib.hid hw1
  have HG := Lib.hid hG
  have HR := Lib.hid hR
  have HRG := Lib.hid hRG
  have HWG := Lib.hid hwG
  clear hB1 hx1 hr1 hw1 hG hR hRG hwG
  go_enter Try.func48, Try.ntmps48
  go_upto_region 1 with (fail)
  rw [← HW1.out, ← HR.out, ← HG.out]
  have h76 := H76.out w1 HB1.out
  have H76' := Lib.hid h76
  clear h76
  go_upto_region 2 with (go_at_call 66; (refine H76'.out.mono ?_; rintro e w2 ⟨⟨ta, tn, tc⟩, rfl, hts, hB2⟩; have hX2 := (hB2.block _ (HK.blk_lt HX1.out)).trans HX1.out; have x2' := HK.blk_cell hX2 2; have xf := fun i => HK.blk_frozen hX2 i; have HX2 := Lib.hid hX2; have HTS := Lib.hid hts; have HB2 := Lib.hid hB2; clear hX2 hts hB2))
  clear x2 x2' xf
  obtain ⟨w3, hw3⟩ : ∃ w3, w3 = w2.setCell ⟨G, 2, none⟩ (.slice ta tn tc) := ⟨_, rfl⟩
  rw [← hw3]
  have hF3 : HK.Frm (· = G) w2 w3 := by rw [hw3]; exact HK.Frm.setCell (F := (· = G)) (HK.Frm.refl _ w2) (.inl rfl) _
  have hX3 : w3.heap[G]? = some (.cells #[.int .u8 op, .string nm, .slice ta tn tc, .slice sa sn sc] 26 (0, 0)) := by rw [hw3]; exact HK.blk_set HX2.out 2 _
  have hR3 : w3.heap[R]? = some (.cells #[.int .u8 0, .string ⟨#[]⟩, .slice none 0 0, .slice none 0 0] 26 (0, 0)) := hF3.heap ((HB2.out.block _ (HK.blk_lt HR1.out)).trans HR1.out) (by have := HRG.out; omega)
  have hB12 := below_then HB1.out HB2.out
  have hB3 : Below w.heap.size w w3 := hB12.trans (hF3.below hB12.size (fun k hk => by have := HWG.out; omega))
  have hw1s : w.heap.size + 2 ≤ w1.heap.size := by have := HK.blk_lt HR1.out; have := HRG.out; have := HWG.out; omega
  have hz3 := hF3.size
  have hts3 : IsTs (fun k => w.heap.size + 2 ≤ k ∧ k < w3.heap.size) w3 ⟨ta, tn, tc⟩ f0.args := HTS.out.turn fun k hk => ⟨⟨Nat.le_trans hw1s hk.1, Nat.lt_of_lt_of_le hk.2 hz3⟩, hF3.block k hk.2 (by have := hk.1; have := HWG.out; omega)⟩
  have x3 := HK.blk_cell hX3 3
  have HX3 := Lib.hid hX3
  have HR3 := Lib.hid hR3
  have HB3 := Lib.hid hB3
  have HTS3 := Lib.hid hts3
  have H78' := Lib.hid (H78.out w3 hB3)
  clear hw3 hF3 hX3 hR3 hB12 hB3 hz3 hts3
  go_upto_region 3 with (go_at_call 67; (refine H78'.out.mono ?_; rintro e w4 ⟨⟨ua, un, uc⟩, rfl, hus, hB4⟩; have hX4 := (hB4.block _ (HK.blk_lt HX3.out)).trans HX3.out; have x3' := HK.blk_cell hX4 3; have xf := fun i => HK.blk_frozen hX4 i; have HX4 := Lib.hid hX4; have HUS := Lib.hid hus; have HB4 := Lib.hid hB4; clear hX4 hus hB4))
  clear x3 x3' xf
  obtain ⟨w5, hw5⟩ : ∃ w5, w5 = w4.setCell ⟨G, 3, none⟩ (.slice ua un uc) := ⟨_, rfl⟩
  rw [← hw5]
  have hF5 : HK.Frm (· = G) w4 w5 := by rw [hw5]; exact HK.Frm.setCell (F := (· = G)) (HK.Frm.refl _ w4) (.inl rfl) _
  have hX5 : w5.heap[G]? = some (.cells #[.int .u8 op, .string nm, .slice ta tn tc, .slice ua un uc] 26 (0, 0)) := by rw [hw5]; exact HK.blk_set HX4.out 3 _
  have hR5 : w5.heap[R]? = some (.cells #[.int .u8 0, .string ⟨#[]⟩, .slice none 0 0, .slice none 0 0] 26 (0, 0)) := hF5.heap ((HB4.out.block _ (HK.blk_lt HR3.out)).trans HR3.out) (by have := HRG.out; omega)
  have hB34 := below_then HB3.out HB4.out
  have hB5 : Below w.heap.size w w5 := hB34.trans (hF5.below hB34.size (fun k hk => by have := HWG.out; omega))
  have hz5 := hF5.size
  have hz4 := HB4.out.size
  have h3G := HK.blk_lt HX3.out
  have hts5 : IsTs (fun k => w.heap.size + 2 ≤ k ∧ k < w5.heap.size) w5 ⟨ta, tn, tc⟩ f0.args := HTS3.out.turn fun k hk => ⟨⟨hk.1, by have := hk.2; omega⟩, (hF5.block k (by have := hk.2; omega) (by have := hk.1; have := HWG.out; omega)).trans (HB4.out.block k hk.2)⟩
  have h3s : w.heap.size + 2 ≤ w3.heap.size := by have := HK.blk_lt HR3.out; have := HRG.out; have := HWG.out; omega
  have hus5 : IsFs (fun k => w.heap.size + 2 ≤ k ∧ k < w5.heap.size) w5 ⟨ua, un, uc⟩ f0.subs := HUS.out.turn fun k hk => ⟨⟨Nat.le_trans h3s hk.1, Nat.lt_of_lt_of_le hk.2 hz5⟩, hF5.block k hk.2 (by have := hk.1; omega)⟩
  have c0 := HK.blk_cell hX5 0
  have c1 := HK.blk_cell hX5 1
  have c2 := HK.blk_cell hX5 2
  have c3 := HK.blk_cell hX5 3
  have r0 := HK.blk_cell hR5 0
  have r1 := HK.blk_cell hR5 1
  have r2 := HK.blk_cell hR5 2
  have r3 := HK.blk_cell hR5 3
  have rf := fun i => HK.blk_frozen hR5 i
  have HR5 := Lib.hid hR5
  have HB5 := Lib.hid hB5
  have HTS5 := Lib.hid hts5
  have HUS5 := Lib.hid hus5
  clear hw5 hF5 hX5 hR5 hB34 hB5 hz5 hz4 h3G hts5 hus5
  go_wp2_with (fail)
  refine bodyPost_ret (results_cell_row (p := 2) (ty := 26) (by kernel_rfl) _ _ R 26 _ (0, 0) _ rfl (set4 HR5.out _ _ _ _) Try.underlying26 rfl (by kernel_rfl)) rfl ?_
  have hF6 := set4_frm w5 R (.int .u8 op) (.string nm) (.slice ta tn tc) (.slice ua un uc)
  have hz6 := hF6.size
  have hRw : R = w.heap.size + 1 := HR.out
  refine ⟨⟨ta, tn, tc⟩, ⟨ua, un, uc⟩, by rw [HOP.out, HNM.out]; rfl, HTS5.out.turn fun k hk => ⟨⟨by have := hk.1; omega, Nat.lt_of_lt_of_le hk.2 hz6⟩, hF6.block k hk.2 (by have := hk.1; omega)⟩, HUS5.out.turn fun k hk => ⟨⟨by have := hk.1; omega, Nat.lt_of_lt_of_le hk.2 hz6⟩, hF6.block k hk.2 (by have := hk.1; omega)⟩, HB5.out.trans (hF6.below HB5.out.size (fun k hk => by omega))⟩
set_option maxRecDepth 100000 in
set_option maxHeartbeats 4000000 in
/-- CopyForms. -/
theorem forms_copy_of (xs : List FT) (hn : xs.length ≤ 20000) (hk : ∀ (i : Nat) f, xs[i]? = some f → FormK f) : FormsK xs := by
  intro s w h
  obtain ⟨sa, n, c⟩ := s
  have hm := h.len
  simp only at hm
  simp only [SL.v]
  have hn2 : n ≤ 20000 := by omega
  have H := Lib.hid h
  have HN := Lib.hid hm
  have HK' := Lib.hid hk
  clear h hm hk hn
  go_enter Try.func67, Try.ntmps67
  go_wp2_with (fail)
  go_loopw [3, 4] (fun v k wr => ∃ (m : Nat) (va : Option Addr) (vc : Nat) (ys : List (FT × SL × SL)), m ≤ n ∧ v = .slice va m vc ∧ k = .int .i64 m ∧ ys.map (·.1) = xs.take m ∧ wr.ownsRow w.heap.size 26 4 (.slice va m vc) m (ys.map rowF).flatten ∧ (∀ y ∈ ys, IsTs (OwnS w.heap.size (.slice va m vc) wr) wr y.2.1 y.1.args ∧ IsFs (OwnS w.heap.size (.slice va m vc) wr) wr y.2.2 y.1.subs) ∧ Below w.heap.size w wr) (fun _ k _ => n - (intOf k).toNat)
  case atStart => exact ⟨0, none, 0, [], by omega, rfl, rfl, rfl, World.ownsRow_nil _ _ _ _, fun y hy => by simp at hy, Below.refl _ _⟩
  case round =>
    obtain ⟨m, va, vc, ys, hm, rfl, rfl, hys, hrow, hin, hB⟩ := hrel
    obtain ⟨wo, rfl⟩ : ∃ wo : World, wo = wr := ⟨_, rfl⟩
    by_cases h1 : m < n
    · obtain ⟨f, hf⟩ : ∃ f, xs[m]? = some f := ⟨_, List.getElem?_eq_getElem (by rw [← HN.out]; exact h1)⟩
      obtain ⟨g, o, a', s', rfl, _, hc, hts, hfs⟩ := fsAt (H.out.up hB) hf
      have hcall := HK'.out m f hf a' s' wo hts hfs
      have htk : xs.take (m + 1) = xs.take m ++ [f] := by rw [List.take_add_one, hf]; rfl
      obtain ⟨f0, hf0⟩ : ∃ f0, f0 = f := ⟨_, rfl⟩
      rw [← hf0] at hcall htk
      obtain ⟨op, nm, fa, fs⟩ := f
      have hop : f0.op = op := by rw [hf0]; rfl
      have hnm : f0.nm = nm := by rw [hf0]; rfl
      unfold RetF at hcall
      rw [hop, hnm] at hcall
      obtain ⟨ba, bn, bc⟩ := a'
      obtain ⟨da, dn, dc⟩ := s'
      simp only [FT.vals, FT.op, FT.nm, SL.v] at hc hcall
      have c0 : wo.cell? ⟨g, o + m * 4, none⟩ = some (.int .u8 op) := hc 0 _ rfl
      have c1 : wo.cell? ⟨g, o + m * 4 + 1, none⟩ = some (.string nm) := hc 1 _ rfl
      have c2 : wo.cell? ⟨g, o + m * 4 + 2, none⟩ = some (.slice ba bn bc) := hc 2 _ rfl
      have c3 : wo.cell? ⟨g, o + m * 4 + 3, none⟩ = some (.slice da dn dc) := hc 3 _ rfl
      have b1 : (0 : Int) ≤ (m : Int) := by omega
      have b2 : (m : Int) < (n : Int) := by omega
      have HCL := Lib.hid hcall
      have HROW := Lib.hid hrow
      have HB := Lib.hid hB
      have HTK := Lib.hid htk
      have HIN := Lib.hid hin
      have HYS := Lib.hid hys
      have HOP := Lib.hid hop
      have HNM := Lib.hid hnm
      clear hc hcall hrow hB htk hin hys hts hfs hf hop hnm hf0
      go_wp2_with (first
        | (go_at_call 48
           refine HCL.out.mono ?_
           rintro e w5 ⟨⟨pa, pn, pc⟩, ⟨qa, qn, qc⟩, rfl, hq5, hr5, hB5⟩
           have hrow5 := own_below HROW.out hB5
           have HROW5 := Lib.hid hrow5
           have HQ5 := Lib.hid hq5
           have HR5 := Lib.hid hr5
           have HB5 := Lib.hid hB5
           clear hrow5 hB5 hq5 hr5)
        | (at_builtin
           refine HK.wpList_app1 rfl elem26f _ _ rfl (.slice va m vc) m (ys.map rowF).flatten rfl (row_mono ((HROW5.out.alloc _).alloc _) (Nat.zero_le _)) (w5.heap.size + 1) 1 #[.int .u8 op, .string nm, .slice pa pn pc, .slice qa qn qc] rfl (blk_new1 _ _ _) rfl (by simp [Value.oneCell']) (by simp only [maxLen]; omega) (by omega) ?_
           intro gg cap w7 hown7 hgrow hat hlt
           have HO7 := Lib.hid hown7
           have HG7 := Lib.hid hgrow
           have HA7 := Lib.hid hat
           have HL7 := Lib.hid hlt
           clear hown7 hgrow hat hlt))
      have hz := HB.out.size
      have hz5 := HB5.out.size
      have hn7 := own_next (W0 := (w5.alloc (.cells #[.int .u8 op, .string nm, .slice pa pn pc, .slice qa qn qc] 26)).alloc (.cells #[.int .u8 op, .string nm, .slice pa pn pc, .slice qa qn qc] 26)) HROW5.out (by simp; omega) HO7.out HA7.out
      have hb5 : Below w.heap.size w w5 := below_then HB.out HB5.out
      have hb7 : Below w.heap.size w w7 := ((hb5.alloc (by omega) _).alloc (by simp; omega) _).grown HG7.out (by simp; omega) (fun k e => (HROW5.out.lt k e).1)
      have hup : ∀ k, OwnS w.heap.size (.slice va m vc) w5 k → OwnS w.heap.size (.slice (some ⟨gg, 0, none⟩) (m + 1) cap) w7 k ∧ w7.heap[k]? = w5.heap[k]? := fun k hk => by
        obtain ⟨q1, q2⟩ := OwnS.call (bl_al (o := .cells #[.int .u8 op, .string nm, .slice pa pn pc, .slice qa qn qc] 26) (bl_al (o := .cells #[.int .u8 op, .string nm, .slice pa pn pc, .slice qa qn qc] 26) (Below.refl w5.heap.size w5))) k hk
        obtain ⟨q3, q4⟩ := OwnS.grown (m := m + 1) (c := cap) HG7.out HA7.out HG7.out.size k q1
        exact ⟨q3, q4.trans q2⟩
      have HUP := Lib.hid hup
      have HN7 := Lib.hid hn7
      have HB7 := Lib.hid hb7
      clear hn7 hb7 hb5 hup
      go_roundw
      case rel =>
        refine ⟨m + 1, some ⟨gg, 0, none⟩, cap, ys ++ [(f0, ⟨pa, pn, pc⟩, ⟨qa, qn, qc⟩)], by omega, rfl, by go_num, by rw [HTK.out, List.map_append, HYS.out]; rfl, ?_, ?_, HB7.out⟩
        · have e : rowF (f0, ⟨pa, pn, pc⟩, ⟨qa, qn, qc⟩) = [.int .u8 op, .string nm, .slice pa pn pc, .slice qa qn qc] := by
            simp only [rowF, FT.vals, HOP.out, HNM.out, SL.v]
          rw [List.map_append, List.flatten_append, List.map_singleton, e]
          exact HN7.out
        · intro y hy
          rcases List.mem_append.1 hy with hy | hy
          · exact ⟨((HIN.out y hy).1.turn (OwnS.call HB5.out)).turn HUP.out, ((HIN.out y hy).2.turn (OwnS.call HB5.out)).turn HUP.out⟩
          · simp only [List.mem_singleton] at hy
            subst hy
            exact ⟨(HQ5.out.turn (OwnS.fresh HROW.out HB5.out hz)).turn HUP.out, (HR5.out.turn (OwnS.fresh HROW.out HB5.out hz)).turn HUP.out⟩
      case measure => simp [intOf]; omega
    · obtain rfl : m = n := by omega
      have b1 : ¬ ((m : Int) < (m : Int)) := by omega
      have HROW := Lib.hid hrow
      have HB := Lib.hid hB
      have HIN := Lib.hid hin
      have HYS := Lib.hid hys
      clear hrow hB hin hys
      go_wp2_with (fail)
      go_ret
      refine ⟨⟨va, m, vc⟩, rfl, ?_, HB.out⟩
      by_cases h0 : m = 0
      · have hx : xs = [] := List.length_eq_zero_iff.1 (by rw [← HN.out]; exact h0)
        rw [hx, h0]
        exact .nil _ _
      · obtain ⟨g, cap, hv, hg1, hg2⟩ := HROW.out.form (by omega)
        simp only [Value.slice.injEq] at hv
        obtain ⟨rfl, _⟩ := hv
        have hrw := HROW.out
        have hmx : m = xs.length := HN.out
        have hy := HYS.out
        rw [List.take_of_length_le (by omega)] at hy
        have hat : ∀ (i : Nat) f, xs[i]? = some f → ∃ y, ys[i]? = some y ∧ y.1 = f := fun i f hf => by
          rw [← hy, List.getElem?_map] at hf
          obtain ⟨y, h1, h2⟩ := Option.map_eq_some_iff.1 hf
          exact ⟨y, h1, h2⟩
        have hgo := IsFs.row (S := Fresh w wo) (W := wo) g 0 vc xs (fun i => ((ys[i]?).map (·.2.1)).getD SL.nil) (fun i => ((ys[i]?).map (·.2.2)).getD SL.nil) ⟨hg1, hg2⟩ (by simp only [maxLen]; omega) (fun i t ht j v hv => by
          obtain ⟨y, h1, h2⟩ := hat i t ht
          simp only [h1, Option.map_some, Option.getD_some] at hv
          have hcell := hrw.cells (g := g) rfl (i * 4 + j) v (flat_rows (n := 4) (fun r hr => by obtain ⟨t, _, rfl⟩ := List.mem_map.1 hr; rfl) (by rw [List.getElem?_map, h1]; rfl : (ys.map rowF)[i]? = some (rowF y)) (by unfold rowF; rw [h2]; exact hv))
          rw [add_zero_at] at hcell
          rw [Nat.zero_add]
          exact hcell) (fun i t ht => by
          obtain ⟨y, h1, h2⟩ := hat i t ht
          simp only [h1, Option.map_some, Option.getD_some]
          rw [← h2]
          exact (HIN.out y (List.mem_of_getElem? h1)).1.turn fun k hk => ⟨⟨hk.1, hk.2.1⟩, rfl⟩) (fun i t ht => by
          obtain ⟨y, h1, h2⟩ := hat i t ht
          simp only [h1, Option.map_some, Option.getD_some]
          rw [← h2]
          exact (HIN.out y (List.mem_of_getElem? h1)).2.turn fun k hk => ⟨⟨hk.1, hk.2.1⟩, rfl⟩)
        rw [← hmx] at hgo
        exact hgo
mutual
theorem form_copy_all : ∀ f : FT, flatF f → FormK f
  | .node op nm a s, h => form_copy_of _ h (forms_copy_of s h.2.2.1 (form_copy_allF s h.2.2.2))
theorem form_copy_allF : ∀ (fs : List FT), flatFs fs → ∀ (i : Nat) f, fs[i]? = some f → FormK f
  | [], _, i, f, h => by simp at h
  | g :: fs, hs, 0, f, h => by simp at h; rw [← h]; exact form_copy_all g hs.1
  | g :: fs, hs, i + 1, f, h => form_copy_allF fs hs.2 i f (by simpa using h)
end
end Go.Proofs.Ytfebcpmbkljaoaa
namespace Go.Proofs.Ytfebcpmbkljaoaa
open Go.RowKit Go.HR
set_option linter.unusedVariables false
set_option linter.unusedSimpArgs false
set_option linter.unusedSectionVars false
def CopyK (t : PT) (r : RT) : Prop := ∀ (sv : SL) (w : World), IsPs w.heap.size w sv t.subs → RichT (fun k => k < w.heap.size) w t r → Calls Try.prog 31 #[.agg (t.arr sv)] w (RetCR w r)
def EachK (ts : List PT) (rs : List RT) : Prop := ∀ (sv : SL) (w : World), IsPs w.heap.size w sv ts → RichF (fun k => k < w.heap.size) w ts rs →
  Calls Try.prog 49 #[sv.v] w fun e w' => ∃ (sv' : SL) (ts' : List PT), e = .returned sv'.v ∧ IsPq (Fresh w w') w' sv' ts' ∧ RichF (Fresh w w') w' ts' rs ∧ Below w.heap.size w w'
theorem kopen {w : World} {r : RT} {a : Array Value} (h : Calls Try.prog 31 a w (RetCR w r)) : Calls Try.prog 31 a w fun e w' => ∃ (cr : ByteArray) (co : Int) (cm : ByteArray) (u1 : Option Addr) (u2 u3 : Nat) (u4 : Option Addr) (u5 u6 : Nat) (cl : Int) (u7 : Option Addr) (u8 u9 : Nat) (cs : List PT) (ca : Option Addr) (cn cc : Nat),
    e = .returned (.agg #[.string cr, .int .u8 co, .string cm, .slice u1 u2 u3, .slice u4 u5 u6, .int .i64 cl, .slice ca cn cc, .slice u7 u8 u9]) ∧ IsPq (Fresh w w') w' ⟨ca, cn, cc⟩ cs ∧ RichT (Fresh w w') w' (.node cr ⟨co, cm, ⟨u1, u2, u3⟩, ⟨u4, u5, u6⟩, cl, ⟨u7, u8, u9⟩⟩ cs) r ∧ Below w.heap.size w w' := by
  refine h.mono ?_
  rintro e w' ⟨⟨cr, ⟨co, cm, ⟨u1, u2, u3⟩, ⟨u4, u5, u6⟩, cl, ⟨u7, u8, u9⟩⟩, cs⟩, ⟨ca, cn, cc⟩, he, h1, h2, h3⟩
  exact ⟨cr, co, cm, u1, u2, u3, u4, u5, u6, cl, u7, u8, u9, cs, ca, cn, cc, he, h1, h2, h3⟩
set_option maxRecDepth 100000 in
set_option maxHeartbeats 16000000 in
theorem proof_copy_of (t : PT) (r : RT) (hr : shortR r) (he : EachK t.subs r.subs) : CopyK t r := by
  intro sv w hs hri
  obtain ⟨rule, ⟨op, name, ⟨aa, an, ac⟩, ⟨fa, fn, fc⟩, label, ⟨ma, mn, mc⟩⟩, subs⟩ := t
  obtain ⟨r', rop, rnm, rargs, rfs, rlab, rmarks, rsubs⟩ := r
  obtain ⟨hr1, hr2, hr3, hr4, hr5, hr6, hr7, hr8⟩ := hri
  obtain ⟨⟨k1, k2⟩, ⟨k3, k4⟩, ⟨k5, k6⟩, k7, k8⟩ := hr
  simp only at hr1 hr2 hr3 hr4 hr5 hr6 hr7
  subst hr1 hr2 hr3 hr4
  obtain ⟨sa, sn, sc⟩ := sv
  simp only [PT.subs, RT.subs] at he hs
  have h62 := fun (W : World) (hB : Below w.heap.size w W) => form_copy_all (.node op name rargs rfs) ⟨k1, k2, k4, k3⟩ ⟨aa, an, ac⟩ ⟨fa, fn, fc⟩ W (hr5.up hB) (hr6.up hB)
  have h63 := fun (W : World) (hB : Below w.heap.size w W) => he ⟨sa, sn, sc⟩ W (hs.up hB) (RichF.turn (fun k hk => ⟨Nat.lt_of_lt_of_le hk hB.size, hB.block k hk⟩) hr8)
  have h64 := fun (W : World) (hB : Below w.heap.size w W) => marks_copy W ⟨ma, mn, mc⟩ rmarks (hr7.turn fun k hk => ⟨Nat.lt_of_lt_of_le hk hB.size, hB.block k hk⟩) k5 k6
  unfold RetF at h62
  simp only [FT.op, FT.nm, FT.args, FT.subs, SL.v] at h62 h63 h64
  simp only [PT.arr, PT.rule, PT.o, PT.subs, SL.v]
  obtain ⟨w1, hw1⟩ : ∃ w1, w1 = (w.alloc (.cells #[.string rule, .int .u8 op, .string name, .slice aa an ac, .slice fa fn fc, .int .i64 label, .slice sa sn sc, .slice ma mn mc] 30)).alloc (.cells #[.string ⟨#[]⟩, .int .u8 0, .string ⟨#[]⟩, .slice none 0 0, .slice none 0 0, .int .i64 0, .slice none 0 0, .slice none 0 0] 30) := ⟨_, rfl⟩
  obtain ⟨G, hG⟩ : ∃ G, G = w.heap.size := ⟨_, rfl⟩
  obtain ⟨R, hR⟩ : ∃ R, R = w.heap.size + 1 := ⟨_, rfl⟩
  have hb1 : Bx w G R #[.string rule, .int .u8 op, .string name, .slice aa an ac, .slice fa fn fc, .int .i64 label, .slice sa sn sc, .slice ma mn mc] #[.string ⟨#[]⟩, .int .u8 0, .string ⟨#[]⟩, .slice none 0 0, .slice none 0 0, .int .i64 0, .slice none 0 0, .slice none 0 0] w1 :=
    ⟨by rw [hw1, hG]; exact HK.blk_alloc (HK.blk_new _ _) _, by rw [hw1, hR]; exact blk_new1 _ _ _, by rw [hw1]; exact bl_al (bl_al (Below.refl _ _)), hG, hR⟩
  have x1 := HK.blk_cell hb1.box 1
  have x2 := HK.blk_cell hb1.box 2
  have x3 := HK.blk_cell hb1.box 3
  have x4 := HK.blk_cell hb1.box 4
  have H62 := Lib.hid (h62 w1 hb1.bel)
  have H63 := Lib.hid h63
  have H64 := Lib.hid h64
  have HB1 := Lib.hid hb1
  have HW1 := Lib.hid hw1
  have HG := Lib.hid hG
  have HR := Lib.hid hR
  clear h62 h63 h64 hb1 hw1 hG hR hs hr5 hr6 hr7 hr8 k1 k2 k3 k4 k5 k6 k7 k8 he
  go_enter Try.func31, Try.ntmps31
  go_upto_region 1 with (fail)
  rw [← HW1.out, ← HR.out, ← HG.out]
  go_upto_region 2 with (go_at_call 48; (refine H62.out.mono ?_; rintro e w2 ⟨⟨ba, bn, bc⟩, ⟨da, dn, dc⟩, rfl, hts, hfs, hB2⟩; have hb2 := HB1.out.call hB2; have x1' := HK.blk_cell hb2.box 1; have x2' := HK.blk_cell hb2.box 2; have x3' := HK.blk_cell hb2.box 3; have x4' := HK.blk_cell hb2.box 4; have xf := fun i => HK.blk_frozen hb2.box i; have HB2 := Lib.hid hb2; have HTS := Lib.hid (hts.turn HB1.out.fresh); have HFS := Lib.hid (hfs.turn HB1.out.fresh); clear hb2 hts hfs hB2))
  clear x1 x2 x3 x4 x1' x2' x3' x4' xf
  obtain ⟨w3, hw3⟩ : ∃ w3, w3 = (((w2.setCell ⟨G, 1, none⟩ (.int .u8 op)).setCell ⟨G, 2, none⟩ (.string name)).setCell ⟨G, 3, none⟩ (.slice ba bn bc)).setCell ⟨G, 4, none⟩ (.slice da dn dc) := ⟨_, rfl⟩
  rw [← hw3]
  have hb3 : Bx w G R #[.string rule, .int .u8 op, .string name, .slice ba bn bc, .slice da dn dc, .int .i64 label, .slice sa sn sc, .slice ma mn mc] #[.string ⟨#[]⟩, .int .u8 0, .string ⟨#[]⟩, .slice none 0 0, .slice none 0 0, .int .i64 0, .slice none 0 0, .slice none 0 0] w3 := by rw [hw3]; exact (((HB2.out.set 1 _).set 2 _).set 3 _).set 4 _
  have hF3 : HK.Frm (· = G) w2 w3 := by rw [hw3]; exact (((frmG _ _ _ _).trans (frmG _ _ _ _)).trans (frmG _ _ _ _)).trans (frmG _ _ _ _)
  have x6 := HK.blk_cell hb3.box 6
  have HB3 := Lib.hid hb3
  have HTS3 := Lib.hid (HTS.out.turn (HB2.out.keep hF3))
  have HFS3 := Lib.hid (HFS.out.turn (HB2.out.keep hF3))
  have H63' := Lib.hid (H63.out w3 hb3.bel)
  clear hw3 hb3 hF3
  go_upto_region 3 with (go_at_call 49; (refine H63'.out.mono ?_; rintro e w4 ⟨⟨ta, tn, tc⟩, ts', rfl, hps, hrf, hB4⟩; have hb4 := HB3.out.call hB4; have x6' := HK.blk_cell hb4.box 6; have xf := fun i => HK.blk_frozen hb4.box i; have HB4 := Lib.hid hb4; have HPS := Lib.hid (hps.turn HB3.out.fresh); have HRF := Lib.hid (RichF.turn HB3.out.fresh hrf); have HTS4 := Lib.hid (HTS3.out.turn (keepB hB4)); have HFS4 := Lib.hid (HFS3.out.turn (keepB hB4)); clear hb4 hps hrf hB4))
  clear x6 x6' xf
  obtain ⟨w5, hw5⟩ : ∃ w5, w5 = w4.setCell ⟨G, 6, none⟩ (.slice ta tn tc) := ⟨_, rfl⟩
  rw [← hw5]
  have hb5 : Bx w G R #[.string rule, .int .u8 op, .string name, .slice ba bn bc, .slice da dn dc, .int .i64 label, .slice ta tn tc, .slice ma mn mc] #[.string ⟨#[]⟩, .int .u8 0, .string ⟨#[]⟩, .slice none 0 0, .slice none 0 0, .int .i64 0, .slice none 0 0, .slice none 0 0] w5 := by rw [hw5]; exact HB4.out.set 6 _
  have hF5 : HK.Frm (· = G) w4 w5 := by rw [hw5]; exact frmG _ _ _ _
  have x7 := HK.blk_cell hb5.box 7
  have HB5 := Lib.hid hb5
  have HTS5 := Lib.hid (HTS4.out.turn (HB4.out.keep hF5))
  have HFS5 := Lib.hid (HFS4.out.turn (HB4.out.keep hF5))
  have HPS5 := Lib.hid (HPS.out.turn (HB4.out.keep hF5))
  have HRF5 := Lib.hid (RichF.turn (HB4.out.keep hF5) HRF.out)
  have H64' := Lib.hid (H64.out w5 hb5.bel)
  clear hw5 hb5 hF5
  go_upto_region 4 with (go_at_call 50; (refine H64'.out.mono ?_; rintro e w6 ⟨⟨va, vn, vc⟩, rfl, hms, hB6⟩; have hb6 := HB5.out.call hB6; have x7' := HK.blk_cell hb6.box 7; have xf := fun i => HK.blk_frozen hb6.box i; have HB6 := Lib.hid hb6; have HMS := Lib.hid (hms.turn HB5.out.fresh); have HTS6 := Lib.hid (HTS5.out.turn (keepB hB6)); have HFS6 := Lib.hid (HFS5.out.turn (keepB hB6)); have HPS6 := Lib.hid (HPS5.out.turn (keepB hB6)); have HRF6 := Lib.hid (RichF.turn (keepB hB6) HRF5.out); clear hb6 hms hB6))
  clear x7 x7' xf
  obtain ⟨w7, hw7⟩ : ∃ w7, w7 = w6.setCell ⟨G, 7, none⟩ (.slice va vn vc) := ⟨_, rfl⟩
  rw [← hw7]
  have hb7 : Bx w G R #[.string rule, .int .u8 op, .string name, .slice ba bn bc, .slice da dn dc, .int .i64 label, .slice ta tn tc, .slice va vn vc] #[.string ⟨#[]⟩, .int .u8 0, .string ⟨#[]⟩, .slice none 0 0, .slice none 0 0, .int .i64 0, .slice none 0 0, .slice none 0 0] w7 := by rw [hw7]; exact HB6.out.set 7 _
  have hF7 : HK.Frm (· = G) w6 w7 := by rw [hw7]; exact frmG _ _ _ _
  have c0 := HK.blk_cell hb7.box 0
  have r0 := HK.blk_cell hb7.res 0
  have c1 := HK.blk_cell hb7.box 1
  have r1 := HK.blk_cell hb7.res 1
  have c2 := HK.blk_cell hb7.box 2
  have r2 := HK.blk_cell hb7.res 2
  have c3 := HK.blk_cell hb7.box 3
  have r3 := HK.blk_cell hb7.res 3
  have c4 := HK.blk_cell hb7.box 4
  have r4 := HK.blk_cell hb7.res 4
  have c5 := HK.blk_cell hb7.box 5
  have r5 := HK.blk_cell hb7.res 5
  have c6 := HK.blk_cell hb7.box 6
  have r6 := HK.blk_cell hb7.res 6
  have c7 := HK.blk_cell hb7.box 7
  have r7 := HK.blk_cell hb7.res 7
  have rf := fun i => HK.blk_frozen hb7.res i
  have HB7 := Lib.hid hb7
  have HTS7 := Lib.hid (HTS6.out.turn (HB6.out.keep hF7))
  have HFS7 := Lib.hid (HFS6.out.turn (HB6.out.keep hF7))
  have HPS7 := Lib.hid (HPS6.out.turn (HB6.out.keep hF7))
  have HRF7 := Lib.hid (RichF.turn (HB6.out.keep hF7) HRF6.out)
  have HMS7 := Lib.hid (HMS.out.turn (HB6.out.keep hF7))
  clear hw7 hb7 hF7
  go_wp2_with (fail)
  refine bodyPost_ret (results_cell_row (p := 2) (ty := 30) (by kernel_rfl) _ _ R 30 _ (0, 0) _ rfl (set8 HB7.out.res _ _ _ _ _ _ _ _) Try.underlying30 rfl (by kernel_rfl)) rfl ?_
  have hF8 := set8_frm w7 R (.string rule) (.int .u8 op) (.string name) (.slice ba bn bc) (.slice da dn dc) (.int .i64 label) (.slice ta tn tc) (.slice va vn vc)
  have hRw : R = w.heap.size + 1 := HR.out
  have hk8 : ∀ b, (w.heap.size + 2 ≤ b ∧ b < w7.heap.size) → Fresh w _ b ∧ _ = _ := fun b hb => ⟨⟨by omega, Nat.lt_of_lt_of_le hb.2 hF8.size⟩, hF8.block b hb.2 (by omega)⟩
  exact ⟨.node rule ⟨op, name, ⟨ba, bn, bc⟩, ⟨da, dn, dc⟩, label, ⟨va, vn, vc⟩⟩ ts', ⟨ta, tn, tc⟩, rfl, HPS7.out.turn hk8, ⟨rfl, rfl, rfl, rfl, HTS7.out.turn hk8, HFS7.out.turn hk8, HMS7.out.turn hk8, RichF.turn hk8 HRF7.out⟩, HB7.out.bel.trans (hF8.below HB7.out.bel.size (fun k hk => by omega))⟩
set_option maxRecDepth 100000 in
set_option maxHeartbeats 8000000 in
/-- CopyProofs. -/
theorem proofs_copy_of (ts : List PT) (rs : List RT) (hn : rs.length ≤ 10000) (hk : ∀ (i : Nat) t r, ts[i]? = some t → rs[i]? = some r → CopyK t r) : EachK ts rs := by
  intro s w h hri
  obtain ⟨sa, n, c⟩ := s
  have hm := h.len
  have hlr := RichF.length hri
  simp only at hm
  simp only [SL.v]
  have hn2 : n ≤ 10000 := by omega
  have hmr : n = rs.length := by omega
  have H := Lib.hid h
  have HRI := Lib.hid hri
  have HN := Lib.hid hm
  have HNR := Lib.hid hmr
  have HK' := Lib.hid hk
  clear h hm hk hn hri hlr hmr
  go_enter Try.func49, Try.ntmps49
  go_wp2_with (fail)
  go_loopw [3, 4] (fun v k wr => ∃ (m : Nat) (va : Option Addr) (vc : Nat) (ys : List (PT × SL)), m ≤ n ∧ v = .slice va m vc ∧ k = .int .i64 m ∧ ys.length = m ∧ wr.ownsRow w.heap.size 30 8 (.slice va m vc) m (flatP ys) ∧ (∀ y ∈ ys, IsPq (OwnS w.heap.size (.slice va m vc) wr) wr y.2 y.1.subs) ∧ (∀ (i : Nat) y r, ys[i]? = some y → rs[i]? = some r → RichT (OwnS w.heap.size (.slice va m vc) wr) wr y.1 r) ∧ Below w.heap.size w wr) (fun _ k _ => n - (intOf k).toNat)
  case atStart => exact ⟨0, none, 0, [], by omega, rfl, rfl, rfl, World.ownsRow_nil _ _ _ _, fun y hy => by simp at hy, fun i y r hy => by simp at hy, Below.refl _ _⟩
  case round =>
    obtain ⟨m, va, vc, ys, hm, rfl, rfl, hys, hrow, hin, hrr, hB⟩ := hrel
    obtain ⟨wo, rfl⟩ : ∃ wo : World, wo = wr := ⟨_, rfl⟩
    by_cases h1 : m < n
    · obtain ⟨t, ht⟩ : ∃ t, ts[m]? = some t := ⟨_, List.getElem?_eq_getElem (by rw [← HN.out]; exact h1)⟩
      obtain ⟨r, hr⟩ : ∃ r, rs[m]? = some r := ⟨_, List.getElem?_eq_getElem (by rw [← HNR.out]; exact h1)⟩
      obtain ⟨g, o, s', rfl, _, hc, hps⟩ := psAt (H.out.up hB) ht
      have hcall := kopen (HK'.out m t r ht hr s' wo hps ((RichF.get HRI.out ht hr).up hB))
      obtain ⟨p0, ⟨p1, p2, ⟨pa, pb, pc⟩, ⟨pd, pe, pf⟩, p5, ⟨pj, pk, pl⟩⟩, ps⟩ := t
      obtain ⟨pg, ph, pi⟩ := s'
      simp only [PT.vals, PT.arr, PT.rule, PT.o, SL.v] at hc hcall
      have c0 : wo.cell? ⟨g, o + m * 8, none⟩ = some (.string p0) := hc 0 _ rfl
      have c1 : wo.cell? ⟨g, o + m * 8 + 1, none⟩ = some (.int .u8 p1) := hc 1 _ rfl
      have c2 : wo.cell? ⟨g, o + m * 8 + 2, none⟩ = some (.string p2) := hc 2 _ rfl
      have c3 : wo.cell? ⟨g, o + m * 8 + 3, none⟩ = some (.slice pa pb pc) := hc 3 _ rfl
      have c4 : wo.cell? ⟨g, o + m * 8 + 4, none⟩ = some (.slice pd pe pf) := hc 4 _ rfl
      have c5 : wo.cell? ⟨g, o + m * 8 + 5, none⟩ = some (.int .i64 p5) := hc 5 _ rfl
      have c6 : wo.cell? ⟨g, o + m * 8 + 6, none⟩ = some (.slice pg ph pi) := hc 6 _ rfl
      have c7 : wo.cell? ⟨g, o + m * 8 + 7, none⟩ = some (.slice pj pk pl) := hc 7 _ rfl
      have b1 : (0 : Int) ≤ (m : Int) := by omega
      have b2 : (m : Int) < (n : Int) := by omega
      have HCL := Lib.hid hcall
      have HROW := Lib.hid hrow
      have HB := Lib.hid hB
      have HIN := Lib.hid hin
      have HRR := Lib.hid hrr
      have HYS := Lib.hid hys
      have HR' := Lib.hid hr
      clear hc hcall hrow hB hin hrr hys hps ht hr
      go_wp2_with (first
        | (go_at_call 31
           refine HCL.out.mono ?_
           rintro e w5 ⟨cr, co, cm, u1, u2, u3, u4, u5, u6, cl, u7, u8, u9, cs, ca, cn, cc, rfl, hq5, hr5, hB5⟩
           have hrow5 := own_below HROW.out hB5
           have HROW5 := Lib.hid hrow5
           have HQ5 := Lib.hid hq5
           have HR5 := Lib.hid hr5
           have HB5 := Lib.hid hB5
           clear hrow5 hB5 hq5 hr5)
        | (at_builtin
           refine HK.wpList_app1 rfl elem30 _ _ rfl (.slice va m vc) m (flatP ys) rfl (row_mono (HROW5.out.alloc _) (Nat.zero_le _)) w5.heap.size 1 #[.string cr, .int .u8 co, .string cm, .slice u1 u2 u3, .slice u4 u5 u6, .int .i64 cl, .slice ca cn cc, .slice u7 u8 u9] rfl (HK.blk_new _ _) rfl (by simp [Value.oneCell']) (by simp only [maxLen]; omega) (by omega) ?_
           intro gg cap w7 hown7 hgrow hat hlt
           have HO7 := Lib.hid hown7
           have HG7 := Lib.hid hgrow
           have HA7 := Lib.hid hat
           have HL7 := Lib.hid hlt
           clear hown7 hgrow hat hlt))
      have hz := HB.out.size
      have hz5 := HB5.out.size
      have hn7 := own_next (W0 := w5.alloc (.cells #[.string cr, .int .u8 co, .string cm, .slice u1 u2 u3, .slice u4 u5 u6, .int .i64 cl, .slice ca cn cc, .slice u7 u8 u9] 30)) HROW5.out (by simp; omega) HO7.out HA7.out
      have hb5 : Below w.heap.size w w5 := below_then HB.out HB5.out
      have hb7 : Below w.heap.size w w7 := (hb5.alloc (by omega) _).grown HG7.out (by simp; omega) (fun k e => (HROW5.out.lt k e).1)
      have hup : ∀ k, OwnS w.heap.size (.slice va m vc) w5 k → OwnS w.heap.size (.slice (some ⟨gg, 0, none⟩) (m + 1) cap) w7 k ∧ w7.heap[k]? = w5.heap[k]? := fun k hk => by
        obtain ⟨q1, q2⟩ := OwnS.call (bl_al (o := .cells #[.string cr, .int .u8 co, .string cm, .slice u1 u2 u3, .slice u4 u5 u6, .int .i64 cl, .slice ca cn cc, .slice u7 u8 u9] 30) (Below.refl w5.heap.size w5)) k hk
        obtain ⟨q3, q4⟩ := OwnS.grown (m := m + 1) (c := cap) HG7.out HA7.out HG7.out.size k q1
        exact ⟨q3, q4.trans q2⟩
      have HUP := Lib.hid hup
      have HN7 := Lib.hid hn7
      have HB7 := Lib.hid hb7
      clear hn7 hb7 hb5 hup
      go_roundw
      case rel =>
        refine ⟨m + 1, some ⟨gg, 0, none⟩, cap, ys ++ [(.node cr ⟨co, cm, ⟨u1, u2, u3⟩, ⟨u4, u5, u6⟩, cl, ⟨u7, u8, u9⟩⟩ cs, ⟨ca, cn, cc⟩)], by omega, rfl, by go_num, by simp [HYS.out], ?_, ?_, ?_, HB7.out⟩
        · have e : flatP (ys ++ [(.node cr ⟨co, cm, ⟨u1, u2, u3⟩, ⟨u4, u5, u6⟩, cl, ⟨u7, u8, u9⟩⟩ cs, ⟨ca, cn, cc⟩)]) = flatP ys ++ [.string cr, .int .u8 co, .string cm, .slice u1 u2 u3, .slice u4 u5 u6, .int .i64 cl, .slice ca cn cc, .slice u7 u8 u9] := by
            rw [flatP_on]; rfl
          rw [e]
          exact HN7.out
        · intro y hy
          rcases List.mem_append.1 hy with hy | hy
          · exact ((HIN.out y hy).turn (OwnS.call HB5.out)).turn HUP.out
          · simp only [List.mem_singleton] at hy
            subst hy
            exact (HQ5.out.turn (OwnS.fresh HROW.out HB5.out hz)).turn HUP.out
        · intro i y r' hy hr'
          by_cases hi : i < ys.length
          · rw [List.getElem?_append_left hi] at hy
            exact RichT.turn HUP.out (RichT.turn (OwnS.call HB5.out) (HRR.out i y r' hy hr'))
          · have hi2 : i = ys.length := by
              have := (List.getElem?_eq_some_iff.1 hy).1
              simp at this; omega
            subst hi2
            rw [List.getElem?_append_right (Nat.le_refl _), Nat.sub_self] at hy
            cases hy
            rw [HYS.out, HR'.out] at hr'
            cases hr'
            exact RichT.turn HUP.out (RichT.turn (OwnS.fresh HROW.out HB5.out hz) HR5.out)
      case measure => simp [intOf]; omega
    · obtain rfl : m = n := by omega
      have b1 : ¬ ((m : Int) < (m : Int)) := by omega
      have HROW := Lib.hid hrow
      have HB := Lib.hid hB
      have HIN := Lib.hid hin
      have HRR := Lib.hid hrr
      have HYS := Lib.hid hys
      clear hrow hB hin hys hrr
      go_wp2_with (fail)
      go_ret
      have hrich : RichF (Fresh w wo) wo (ys.map (·.1)) rs := RichF.of (by rw [List.length_map, HYS.out]; exact HNR.out) (fun i t r ht hr => by
        rw [List.getElem?_map] at ht
        obtain ⟨x, hx, rfl⟩ := Option.map_eq_some_iff.1 ht
        exact RichT.turn (fun k hk => ⟨⟨hk.1, hk.2.1⟩, rfl⟩) (HRR.out i x r hx hr))
      refine ⟨⟨va, m, vc⟩, rfl, ys.map (·.1), ?_, hrich, HB.out⟩
      by_cases h0 : m = 0
      · have hx : ys = [] := List.length_eq_zero_iff.1 (by rw [HYS.out]; exact h0)
        rw [hx, h0]
        exact .nil _ _
      · obtain ⟨g, cap, hv, hg1, hg2⟩ := HROW.out.form (by omega)
        simp only [Value.slice.injEq] at hv
        obtain ⟨rfl, _⟩ := hv
        have hrw := HROW.out
        have hl := HYS.out
        exact pq_row (base := w.heap.size) (by rw [hl]; exact hrw) ⟨hg1, hg2⟩ (fun x hx => (HIN.out x hx).turn fun k hk => ⟨⟨hk.1, hk.2.1⟩, rfl⟩)
mutual
/-- CopyProof. -/
theorem proof_copy_all : ∀ (t : PT) (r : RT), shortR r → CopyK t r
  | .node rl o s, .node a b c d e f g rs, h => proof_copy_of _ _ h (proofs_copy_of s rs h.2.2.2.1 (proof_copy_allF s rs h.2.2.2.2))
theorem proof_copy_allF : ∀ (ts : List PT) (rs : List RT), shortF rs → ∀ (i : Nat) t r, ts[i]? = some t → rs[i]? = some r → CopyK t r
  | [], _, _, i, t, r, h, _ => by simp at h
  | _ :: _, [], _, i, t, r, _, h => by simp at h
  | t :: ts, r :: rs, hs, 0, t', r', h1, h2 => by simp at h1 h2; subst h1 h2; exact proof_copy_all t r hs.1
  | t :: ts, r :: rs, hs, i + 1, t', r', h1, h2 => proof_copy_allF ts rs hs.2 i t' r' (by simpa using h1) (by simpa using h2)
end
end Go.Proofs.Ytfebcpmbkljaoaa
