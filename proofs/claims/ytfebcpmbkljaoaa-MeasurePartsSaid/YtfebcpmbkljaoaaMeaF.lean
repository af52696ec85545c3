/- The walk of slices.Collect over the steps. -/
import Derived.Test.YtfebcpmbkljaoaaMeaE
import Derived.Maps.OwnIn
namespace Go.Proofs.Ytfebcpmbkljaoaa
open Go.RowKit Go.HR
set_option linter.unusedVariables false
set_option linter.unusedSimpArgs false
set_option linter.unusedSectionVars false
attribute [local go_sem] Oper.semAt_some wide_fn asked_wide wide_depth
theorem info92 : (Try.prog.info? 92).map (fun i => (i.zero, i.size, i.bytes)) = some (some (.agg #[.slice none 0 0, .int .i64 0, .string ⟨#[]⟩, .int .u8 0, .string ⟨#[]⟩, .slice none 0 0, .slice none 0 0, .int .i64 0, .slice none 0 0, .slice none 0 0]), 10, 176) := by kernel_rfl
def flatS (xs : List StepV) : List Value := xs.flatMap (fun x => x.cells.toList)
theorem flatS_on (xs : List StepV) (x : StepV) : flatS (xs ++ [x]) = flatS xs ++ x.cells.toList := by simp [flatS]
structure CoI (w : World) (n0 : Nat) (pre : List StepV) (W : World) : Prop where
  told : ∀ x ∈ pre, ToldS n0 x W
  hr : ∃ v, Boxed W w.heap.size 89 v ∧ W.ownsRow w.heap.size 92 10 v pre.length (flatS pre)
  hB : Below w.heap.size w W
  hz : w.heap.size + 1 ≤ W.heap.size
theorem CoI.turn {w A C : World} {n0 : Nat} {pre : List StepV} (h : CoI w n0 pre A) (hn : n0 ≤ w.heap.size) (ht : Turn (w.heap.size + 1) A C) : CoI w n0 pre C where
  told := fun x hx => (h.told x hx).turn ht (by omega)
  hr := by
    obtain ⟨v, h1, h2⟩ := h.hr
    refine ⟨v, ht.same _ _ h1 (.inr rfl), h2.1, ?_⟩
    rcases h2.2 with h0 | ⟨g, cap, cur, rfl, hg, hh, r⟩
    · exact .inl h0
    · exact .inr ⟨g, cap, cur, rfl, hg, ht.same _ _ hh (.inr rfl), r⟩
  hB := below_turn h.hB ht (by omega) (Nat.le_refl _)
  hz := Nat.le_trans h.hz ht.size
def CoSafe (w : World) (W : World) (k : Nat) : Prop := k < W.heap.size ∧ k ≠ w.heap.size ∧ ∀ v, Boxed W w.heap.size 89 v → v.ownBlock ≠ some k
theorem boxed_inj {W : World} {b t : Nat} {v v' : Value} (h : Boxed W b t v) (h' : Boxed W b t v') : v' = v := by
  unfold Boxed at h h'; rw [h] at h'; simpa using h'.symm
theorem CoI.box {w A C : World} {n0 : Nat} {pre : List StepV} (h : CoI w n0 pre A) {B : Nat} (ht : Turn B A C) {v : Value} (hv : Boxed C w.heap.size 89 v) : Boxed A w.heap.size 89 v := by
  obtain ⟨u, h1, h2⟩ := h.hr
  rw [boxed_inj (ht.same _ _ h1 (.inr rfl)) hv]; exact h1
theorem CoI.row_lt {w A : World} {n0 : Nat} {pre : List StepV} (h : CoI w n0 pre A) {v : Value} (hv : Boxed A w.heap.size 89 v) {k : Nat} (hk : v.ownBlock = some k) : w.heap.size ≤ k ∧ k < A.heap.size := by
  obtain ⟨u, h1, h2⟩ := h.hr
  rw [boxed_inj h1 hv] at hk
  exact h2.lt k hk
def CoAx (w : World) (n0 Bp : Nat) (x : StepV) (a' : Act) (W : World) : Prop :=
  ToldS n0 x W ∧ ∃ Bx, w.heap.size + 1 ≤ Bx ∧ W.heap[Bx]? = some (.cells x.cells 92 (0, 0)) ∧
    a' = { tmps := #[.slice none 0 0, .func (.func 73) #[] #[.pointer (some ⟨Bp, 0, none⟩)], .pointer (some ⟨w.heap.size, 0, none⟩), undef, .slice none 0 0, .pointer (some ⟨Bx, 0, none⟩), .func (.func 73) #[] #[.pointer (some ⟨Bp, 0, none⟩)], .agg x.cells,
      undef, undef, undef, undef, undef], defers := [] }
theorem CoAx.turn {w A C : World} {B n0 Bp : Nat} {x : StepV} {a : Act} (h : CoAx w n0 Bp x a A) (ht : Turn B A C) (hn : n0 ≤ B) : CoAx w n0 Bp x a C := by
  obtain ⟨h1, Bx, h3, h4, h5⟩ := h
  exact ⟨h1.turn ht hn, Bx, h3, ht.same _ _ h4 (.inr rfl), h5⟩
theorem ToldS.frm {n0 : Nat} {x : StepV} {A C : World} (h : ToldS n0 x A) (hb : ∀ (k : Nat) (cs : Array Value) (t : TypeId), A.heap[k]? = some (Obj.cells cs t (0, 0)) → t = 3 → C.heap[k]? = some (Obj.cells cs t (0, 0))) (hs : ∀ k, k < n0 → C.heap[k]? = A.heap[k]?) : ToldS n0 x C := by
  refine ⟨⟨h.1.1, ?_⟩, h.2.same hs⟩
  rcases h.1.2 with h0 | ⟨g, cap, cur, hv, hg, hh, r⟩
  · exact .inl h0
  · exact .inr ⟨g, cap, cur, hv, hg, hb _ _ _ hh rfl, r⟩
theorem CoI.step {w W w1 : World} {n0 l : Nat} {pre : List StepV} {x : StepV} (h : CoI w n0 pre W) (hn : n0 ≤ w.heap.size) (hT : ToldS n0 x W) {v v' : Value} {tmp : Obj} (hv : Boxed W w.heap.size 89 v) (hrow : W.ownsRow w.heap.size 92 10 v pre.length (flatS pre))
    (hgrow : (W.alloc tmp).grownBy w1 v.ownBlock) (hat : v'.ownBlock = v.ownBlock ∨ v'.ownBlock = some (W.alloc tmp).heap.size) (hv2 : Boxed (w1.setCell ⟨w.heap.size, 0, none⟩ v') w.heap.size 89 v')
    (hr2 : (w1.setCell ⟨w.heap.size, 0, none⟩ v').ownsRow w.heap.size 92 10 v' (pre.length + 1) (flatS pre ++ x.cells.toList)) (hb2 : Below w.heap.size W (w1.setCell ⟨w.heap.size, 0, none⟩ v')) :
    Keep (CoSafe w) l W (w1.setCell ⟨w.heap.size, 0, none⟩ v') ∧ CoI w n0 (pre ++ [x]) (w1.setCell ⟨w.heap.size, 0, none⟩ v') := by
  have hf : HK.Frm (fun j => j = w.heap.size ∨ v.ownBlock = some j) W (w1.setCell ⟨w.heap.size, 0, none⟩ v') :=
    (((HK.Frm.refl _ W).alloc tmp).grown hgrow (fun j e => .inl (.inr e))).setCell (p := ⟨w.heap.size, 0, none⟩) (.inl (.inl rfl)) _
  have stay : ∀ {k ty : Nat} {cs : Array Value}, W.heap[k]? = some (.cells cs ty (0, 0)) → ty = 3 → (w1.setCell ⟨w.heap.size, 0, none⟩ v').heap[k]? = some (.cells cs ty (0, 0)) := fun {k ty cs} hk hty =>
    hf.heap hk (fun hh => hh.elim (fun e => by subst e; rw [show W.heap[w.heap.size]? = _ from hv] at hk; cases hk; cases hty) (fun e => HK.owns_ne_type hrow hk (fun c e => by cases e; cases hty) e))
  refine ⟨⟨hf.size, fun k hk hne => ⟨⟨Nat.lt_of_lt_of_le hk.1 hf.size, hk.2.1, fun u hu => ?_⟩, hf.block k hk.1 (fun hh => hh.elim hk.2.1 (hk.2.2 v hv))⟩⟩, ?_⟩
  · rw [boxed_inj hv2 hu]
    rcases hat with e | e
    · rw [e]; exact hk.2.2 v hv
    · rw [e]; intro e2; have := hk.1; simp at e2; omega
  · exact {
      told := fun y hy => by
        have hy' : ToldS n0 y W := by
          rcases List.mem_append.1 hy with hy | hy
          · exact h.told y hy
          · rw [List.mem_singleton.1 hy]; exact hT
        exact hy'.frm (fun k cs t hk ht => stay hk ht) (fun k hk => hb2.block k (by omega))
      hr := ⟨v', hv2, by rw [List.length_append, flatS_on]; exact hr2⟩
      hB := h.hB.trans hb2
      hz := Nat.le_trans h.hz hf.size }
/-- All steps of a proof, as a list. -/
def RetCo (w : World) (n0 : Nat) (t : PT) (e : Ending) (w' : World) : Prop := ∃ v xs, e = .returned v ∧ Below w.heap.size w w' ∧ xs.map (·.d) = stepsT [] whole t ∧ w'.ownsRow w.heap.size 92 10 v xs.length (flatS xs) ∧ ∀ x ∈ xs, ToldS n0 x w'
set_option maxRecDepth 100000 in
set_option maxHeartbeats 4000000 in
theorem append_in (k : Nat) (hk : 4 ≤ k) (w : World) (t : PT) (sv : SL) (Bp n0 : Nat) (hB : w.heap[Bp]? = some (.cells (t.arr sv) 30 (0, 0))) (hn : n0 ≤ w.heap.size) (hs : IsPs n0 w sv t.subs) (hsz : sizeT t ≤ 10000) :
    CallsIn Fence.wide k Try.prog 72 #[.slice none 0 0, .func (.func 73) #[] #[.pointer (some ⟨Bp, 0, none⟩)]] w (RetCo w n0 t) := by
  have hBp := HK.blk_lt hB
  refine callsIn_of_wp_marks Try.func72 rfl trivial ?_ rfl
  simp only [Try.ntmps72, List.size_toArray, List.length_cons, List.length_nil, Nat.reduceAdd, Nat.reduceSub, Array.replicate_succ, Array.replicate_zero, List.push_toArray, List.append_toArray, List.nil_append, List.cons_append]
  gi_wp2
  obtain ⟨w0, hw0⟩ : ∃ w0, w0 = w.alloc (.cells #[.slice none 0 0] 89) := ⟨_, rfl⟩
  have hb0 : Below w.heap.size w w0 := by rw [hw0]; exact (Below.refl _ w).alloc (Nat.le_refl _) _
  have hsz0 : w0.heap.size = w.heap.size + 1 := by rw [hw0]; simp
  have b2 : Boxed w0 w.heap.size 89 (.slice none 0 0) := by rw [hw0]; exact Boxed.new w 89 _
  have hI0 : CoI w n0 [] w0 := ⟨(fun x hx => by cases hx), ⟨_, b2, World.ownsRow_nil _ _ _ _⟩, hb0, by omega⟩
  have hB0 : w0.heap[Bp]? = some (.cells (t.arr sv) 30 (0, 0)) := (hb0.block _ hBp).trans hB
  have hs0 : IsPs n0 w0 sv t.subs := hs.same fun j hj => hb0.block j (by omega)
  rw [← hw0]
  refine range_told (n := k) rfl (by omega) (gf := 73) (lb := #[.pointer (some ⟨Bp, 0, none⟩)]) rfl trivial (enters_of Try.func73 (by kernel_rfl) rfl)
    (steps_seq (k - 1) w0 t sv Bp n0 hB0 hs0 (by omega) hsz)
    (fun _ => rfl) (fun x A C h ht => h.turn ht (by omega)) (fun _ _ _ h _ => h) (fun _ _ _ h _ => h)
    (CoI w n0) (fun c pre W => False)
    (fun _ A C h ht => by rw [hsz0] at ht; exact h.turn hn ht) (fun _ _ A C h ht => h) hI0
    (CoSafe w) (fun j hj => ⟨by rcases hj with h | h <;> omega, by rcases hj with h | h <;> omega, fun v hv => by rw [boxed_inj b2 hv]; simp [Value.ownBlock]⟩)
    (fun _ _ _ _ h => h.1) (fun _ A C j hi ht h => ⟨Nat.lt_of_lt_of_le h.1 ht.size, h.2.1, fun v hv => h.2.2 v (hi.box ht hv)⟩)
    (fun _ A C j hi ht h1 h2 => ⟨h2, by have := hi.hz; omega, fun v hv e => by have := (hi.row_lt (hi.box ht hv) e).2; omega⟩)
    (CoAx w n0 Bp) (fun _ _ A C h ht => h.turn ht (by omega)) ?assign ?body ?done ?stop
  case assign =>
    intro l pre x W R hI hT hR
    have HT := Lib.hid hT
    clear hT
    obtain ⟨⟨pl, wt, ⟨rule, ⟨op, name, ⟨aa, an, ac⟩, ⟨fa, fn, fc⟩, label, ⟨ma, mn, mc⟩⟩, subs⟩⟩, ⟨pa, pn, pc⟩, ⟨sa, sn, sc⟩⟩ := x
    simp only [encS, StepV.cells, PT.rule, PT.o, SL.v]
    gi_wp2
    have hz := hI.hz
    have hb := HK.blk_new W (.cells #[.slice pa pn pc, .int .i64 (wt : Nat), .string rule, .int .u8 op, .string name, .slice aa an ac, .slice fa fn fc, .int .i64 label, .slice sa sn sc, .slice ma mn mc] 92)
    have ht := Turn.of_alloc (B := w.heap.size + 1) W (.cells #[.slice pa pn pc, .int .i64 (wt : Nat), .string rule, .int .u8 op, .string name, .slice aa an ac, .slice fa fn fc, .int .i64 label, .slice sa sn sc, .slice ma mn mc] 92)
    refine hR _ _ ((KeepsOthers.alloc _ _).from _) ⟨by simp, fun j hj hne => ⟨⟨by have := hj.1; simp; omega, hj.2.1, fun v hv => hj.2.2 v (hI.box ht hv)⟩, Below.heap_alloc _ _ _ hj.1⟩⟩ (hI.turn hn ht) ⟨HT.out.turn ht (by omega), W.heap.size, hz, hb, rfl⟩
  case body =>
    intro l pre x a' W hI hax hpl
    obtain ⟨hT, Bx, hBx, hX, rfl⟩ := hax
    have hlt := HK.blk_lt hX
    obtain ⟨cs, hcs⟩ : ∃ cs, cs = x.cells := ⟨_, rfl⟩
    have hone : ∀ u ∈ x.cells.toList, u.oneCell' = true := by simp [StepV.cells, SL.v, Value.oneCell']
    obtain ⟨q0, q1, q2, q3, q4, q5, q6, q7, q8, q9, hq⟩ : ∃ q0 q1 q2 q3 q4 q5 q6 q7 q8 q9, x.cells = #[q0, q1, q2, q3, q4, q5, q6, q7, q8, q9] := ⟨_, _, _, _, _, _, _, _, _, _, rfl⟩
    rw [hq] at hX hone ⊢
    have x0 := HK.blk_cell hX 0
    have x1 := HK.blk_cell hX 1
    have x2 := HK.blk_cell hX 2
    have x3 := HK.blk_cell hX 3
    have x4 := HK.blk_cell hX 4
    have x5 := HK.blk_cell hX 5
    have x6 := HK.blk_cell hX 6
    have x7 := HK.blk_cell hX 7
    have x8 := HK.blk_cell hX 8
    have x9 := HK.blk_cell hX 9
    obtain ⟨v, hv, hrow⟩ := hI.hr
    have c2 := hv.cell
    have hz := hI.hz
    have HONE := Lib.hid hone
    have HI := Lib.hid hI
    have HX := Lib.hid hX
    have HQ := Lib.hid hq
    have HT := Lib.hid hT
    have HPL := Lib.hid hpl
    clear hI hX hpl hw0 hsz0 b2 hI0 hb0 hs0 hB0 hB hs hq hT hcs hone
    obtain ⟨i0', hi, hz0, hz1, hz2⟩ := info_parts info92
    gi_wp2_with (gi_at_builtin; refine wpListIn_append_own_at _ rfl _ _ 89 rfl w.heap.size 92 i0' (.agg #[.slice none 0 0, .int .i64 0, .string ⟨#[]⟩, .int .u8 0, .string ⟨#[]⟩, .slice none 0 0, .slice none 0 0, .int .i64 0, .slice none 0 0, .slice none 0 0]) 10 176 Try.underlying89 hi hz0 hz1 hz2 rfl (by decide) _ _ _ rfl (hrow.alloc _) ⟨W.heap.size, 0, none⟩ 1 1 [q0, q1, q2, q3, q4, q5, q6, q7, q8, q9] rfl rfl (World.news_of_block (cs := #[q0, q1, q2, q3, q4, q5, q6, q7, q8, q9]) (t := 92) (fr := (0, 0)) (World.alloc_heap_new W _)) HONE.out (by have := HPL.out; simp only [maxLen]; omega) (by have := HPL.out; omega) (by simp; omega) ?_; intro v' w1 hown' hgrow _ hat; obtain ⟨g', cap', rfl⟩ := ownsRow_succ hown'; obtain ⟨hv1, hv2, hr2, hk2, hb2⟩ := hv.appended (by decide) hrow (by omega) (Nat.le_refl _) hown' hgrow; have hc1 := hv1.cell; have hf1 := hv1.frozen)
    obtain ⟨g1, g2⟩ := HI.out.step (l := l) hn HT.out hv hrow hgrow hat hv2 (by rw [HQ.out]; exact hr2) hb2
    exact ⟨hk2.from _, g1, g2⟩
  case done =>
    rintro D ys W hD hS hI hK
    obtain ⟨v, hv, hrow⟩ := hI.hr
    have c2 := hv.cell
    have f2 := hv.frozen
    have HI := Lib.hid hI
    have HS := Lib.hid hS
    have HKD := Lib.hid hK
    have HD := Lib.hid hD
    have HSZ := Lib.hid hsz0
    have HR := Lib.hid hrow
    clear hI hS hK hD hw0 hsz0 b2 hI0 hb0 hs0 hB0 hB hs hrow
    gi_wp2
    refine ⟨by simp, .inl ⟨_, _, rfl, run_takeDeferred HKD.out, ?_⟩⟩
    refine ⟨v, by simp [results, Try.results72, go_sem], v, ys, rfl, (HI.out.hB).grown (grownBy_putObj' W D _) (by have := HI.out.hB.size; omega) (fun k e => by cases e; have := HD.out; have := HSZ.out; omega), HS.out, ownsRow_putObj HR.out _ HKD.out rfl, fun x hx => ?_⟩
    exact (HI.out.told x hx).turn (Turn.of_put (B := n0) HKD.out rfl (by have := HD.out; have := HSZ.out; omega) _) (Nat.le_refl _)
  case stop =>
    rintro D c pre W hD hpre h hK
    exact h.elim
theorem collect_call (w : World) (t : PT) (sv : SL) (Bp n0 : Nat) (hB : w.heap[Bp]? = some (.cells (t.arr sv) 30 (0, 0))) (hn : n0 ≤ w.heap.size) (hs : IsPs n0 w sv t.subs) (hsz : sizeT t ≤ 10000) :
    Calls Try.prog 54 #[.func (.func 73) #[] #[.pointer (some ⟨Bp, 0, none⟩)]] w (RetCo w n0 t) := by
  have h := callsIn_wide.1 (append_in 4 (by omega) w t sv Bp n0 hB hn hs hsz)
  clear hB hn hs hsz
  go_enter Try.func54, Try.ntmps54
  go_wp2_with (go_at_call 72; refine h.mono ?_; rintro e w' ⟨v, xs, rfl, h1, h2, h3, h4⟩)
  go_ret
  exact ⟨v, xs, rfl, h1, h2, h3, h4⟩
end Go.Proofs.Ytfebcpmbkljaoaa
