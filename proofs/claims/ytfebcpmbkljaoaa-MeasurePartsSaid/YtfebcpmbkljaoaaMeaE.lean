/- The walk of measurable. -/
import Derived.Test.YtfebcpmbkljaoaaMeaD
namespace Go.Proofs.Ytfebcpmbkljaoaa
open Go.RowKit Go.HR
set_option linter.unusedVariables false
set_option linter.unusedSimpArgs false
set_option linter.unusedSectionVars false
attribute [local go_sem] Oper.semAt_some wide_fn asked_wide wide_depth
theorem Boxed.putD {W : World} {k t D : Nat} {v : Value} (h : Boxed W k t v) (hne : k ≠ D) (o : Obj) : Boxed (W.putObj D o) k t v := h.kept (grownBy_putObj' W D o) (fun e => hne (by cases e; rfl))
structure MsI (w : World) (pre : List StepV) (W : World) : Prop where
  all : ∀ x ∈ pre, okD x.d = true
  len : pre.length ≤ 300
  rr : Boxed W (w.heap.size + 1) 4 (.bool false)
  rn : Boxed W (w.heap.size + 2) 3 (.int .i64 (pre.length : Nat))
  hB : Below w.heap.size w W
  hz : w.heap.size + 4 ≤ W.heap.size
structure MsX (w : World) (pre : List StepV) (W : World) : Prop where
  bad : 300 < pre.length ∨ ∃ x ∈ pre, okD x.d = false
  rr : Boxed W (w.heap.size + 1) 4 (.bool false)
  hB : Below w.heap.size w W
  hz : w.heap.size + 4 ≤ W.heap.size
theorem MsI.turn {w A C : World} {pre : List StepV} (h : MsI w pre A) (ht : Turn (w.heap.size + 4) A C) : MsI w pre C :=
  ⟨h.all, h.len, ht.same _ _ h.rr (.inr rfl), ht.same _ _ h.rn (.inr rfl), below_turn h.hB ht (by omega) (Nat.le_refl _), Nat.le_trans h.hz ht.size⟩
theorem MsX.turn {w A C : World} {pre : List StepV} (h : MsX w pre A) (ht : Turn (w.heap.size + 4) A C) : MsX w pre C :=
  ⟨h.bad, ht.same _ _ h.rr (.inr rfl), below_turn h.hB ht (by omega) (Nat.le_refl _), Nat.le_trans h.hz ht.size⟩
def MsSafe (w : World) (W : World) (k : Nat) : Prop := k < W.heap.size ∧ k ≠ w.heap.size + 1 ∧ k ≠ w.heap.size + 2
def MsAx (w : World) (t : PT) (sv : SL) (x : StepV) (a' : Act) (W : World) : Prop :=
  x.pv.n = x.d.pl.length ∧ x.sv.n = x.d.t.subs.length ∧ ∃ Bx, w.heap.size + 4 ≤ Bx ∧ W.heap[Bx]? = some (.cells x.cells 92 (0, 0)) ∧
    a' = { tmps := #[.agg (t.arr sv), .pointer (some ⟨w.heap.size, 0, none⟩), .pointer (some ⟨w.heap.size + 1, 0, none⟩), .pointer (some ⟨w.heap.size + 1 + 1, 0, none⟩), .pointer (some ⟨Bx, 0, none⟩), .agg (t.arr sv),
      .func (.func 73) #[] #[.pointer (some ⟨w.heap.size + 1 + 1 + 1, 0, none⟩)], .agg x.cells,
      undef, undef, undef, undef, undef, undef, undef, undef, undef, undef, undef, undef, undef, undef, undef, undef, undef, undef, undef, undef, undef, undef, undef, undef, undef, undef, undef, undef], defers := [] }
theorem MsAx.turn {w A C : World} {B : Nat} {t : PT} {sv : SL} {x : StepV} {a : Act} (h : MsAx w t sv x a A) (ht : Turn B A C) : MsAx w t sv x a C := by
  obtain ⟨h1, h2, Bx, h3, h4, h5⟩ := h
  exact ⟨h1, h2, Bx, h3, ht.same _ _ h4 (.inr rfl), h5⟩
theorem meas_stop {w W : World} {t : PT} {pre : List StepV} (hp : pre.map (·.d) <+: stepsT [] whole t) (h : MsX w pre W) : measT t = false := by
  obtain ⟨r, hr⟩ := hp
  simp only [measT, Bool.and_eq_false_iff, decide_eq_false_iff_not]
  rcases h.bad with h | ⟨x, hx, hf⟩
  · left
    have := steps_size [] whole t
    rw [← hr] at this; simp at this; omega
  · right
    rw [List.all_eq_false]
    exact ⟨x.d, by rw [← hr]; exact List.mem_append_left _ (List.mem_map.2 ⟨x, hx, rfl⟩), by simp [hf]⟩
theorem meas_done {w W : World} {t : PT} {pre : List StepV} (hp : pre.map (·.d) = stepsT [] whole t) (h : MsI w pre W) : measT t = true := by
  simp only [measT, Bool.and_eq_true, decide_eq_true_eq, List.all_eq_true]
  refine ⟨?_, ?_⟩
  · have := steps_size [] whole t
    rw [← hp] at this; simp at this; have := h.len; omega
  · intro d hd
    rw [← hp] at hd
    obtain ⟨x, hx, rfl⟩ := List.mem_map.1 hd
    exact h.all x hx
theorem MsI.on {w W : World} {pre : List StepV} (h : MsI w pre W) (x : StepV) (hok : okD x.d = true) (hl : pre.length < 300) (B l : Nat) :
    KeepsFrom B W (W.setCell ⟨w.heap.size + 1 + 1, 0, none⟩ (.int .i64 ((pre.length : Int) + 1))) ∧ Keep (MsSafe w) l W (W.setCell ⟨w.heap.size + 1 + 1, 0, none⟩ (.int .i64 ((pre.length : Int) + 1))) ∧ MsI w (pre ++ [x]) (W.setCell ⟨w.heap.size + 1 + 1, 0, none⟩ (.int .i64 ((pre.length : Int) + 1))) := by
  refine ⟨(KeepsOthers.setCell W _ _).from _, ⟨by simp, fun k hk hne => ⟨⟨by simpa using hk.1, hk.2⟩, Below.heap_setCell W ⟨w.heap.size + 1 + 1, 0, none⟩ _ k (fun e => hk.2.2 (by simpa using e))⟩⟩, ?_, by simp; omega, h.rr.other (by omega) _, ?_, h.hB.setCell (p := ⟨w.heap.size + 1 + 1, 0, none⟩) (by simp; omega) _, by simpa using h.hz⟩
  · intro y hy
    rcases List.mem_append.1 hy with hy | hy
    · exact h.all y hy
    · simp at hy; subst hy; exact hok
  · have := h.rn.set (.int .i64 ((pre.length : Int) + 1))
    simpa using this
theorem MsI.off {w W : World} {pre : List StepV} (h : MsI w pre W) (x : StepV) (hok : okD x.d = false ∨ 300 ≤ pre.length) (B : Nat) :
    KeepsFrom B W ((W.setCell ⟨w.heap.size + 1 + 1, 0, none⟩ (.int .i64 ((pre.length : Int) + 1))).setCell ⟨w.heap.size + 1, 0, none⟩ (.bool false)) ∧ MsX w (pre ++ [x]) ((W.setCell ⟨w.heap.size + 1 + 1, 0, none⟩ (.int .i64 ((pre.length : Int) + 1))).setCell ⟨w.heap.size + 1, 0, none⟩ (.bool false)) := by
  refine ⟨((KeepsOthers.setCell W _ _).trans (KeepsOthers.setCell _ _ _)).from _, ?_, (h.rr.other (by omega) _).set _, (h.hB.setCell (p := ⟨w.heap.size + 1 + 1, 0, none⟩) (by simp; omega) _).setCell (p := ⟨w.heap.size + 1, 0, none⟩) (by simp) _, by simpa using h.hz⟩
  rcases hok with hok | hok
  · exact .inr ⟨x, by simp, hok⟩
  · exact .inl (by simp; omega)
def RetMs (w : World) (t : PT) (e : Ending) (w' : World) : Prop := e = .returned (.bool (measT t)) ∧ Below w.heap.size w w'
set_option maxRecDepth 100000 in
set_option maxHeartbeats 4000000 in
theorem measurable_aux (k : Nat) (hk : 4 ≤ k) (w : World) (t : PT) (sv : SL) (hs : IsPs w.heap.size w sv t.subs) (hsz : sizeT t ≤ 10000) (a0 a1 a2 a3 a4 a5 a6 a7 : Value) (hA : t.arr sv = #[a0, a1, a2, a3, a4, a5, a6, a7]) :
    CallsIn Fence.wide k Try.prog 45 #[.agg #[a0, a1, a2, a3, a4, a5, a6, a7]] w (RetMs w t) := by
  have hst := fun W k => steps_in W t sv k
  rw [hA] at hst
  refine callsIn_of_wp_marks Try.func45 rfl trivial ?_ rfl
  simp only [Try.ntmps45, List.size_toArray, List.length_cons, List.length_nil, Nat.reduceAdd, Nat.reduceSub, Array.replicate_succ, Array.replicate_zero, List.push_toArray, List.append_toArray, List.nil_append, List.cons_append]
  gi_wp2_with (gi_at_call 55; refine (hst _ _).mono ?_; rintro e w' ⟨rfl, rfl⟩)
  obtain ⟨w0, hw0⟩ : ∃ w0, w0 = ((((w.alloc (.cells #[a0, a1, a2, a3, a4, a5, a6, a7] 30)).alloc (.cells #[.bool false] 4)).alloc (.cells #[.int .i64 0] 3)).alloc (.cells #[a0, a1, a2, a3, a4, a5, a6, a7] 30)) := ⟨_, rfl⟩
  have hb0 : Below w.heap.size w w0 := by
    rw [hw0]; exact (((((Below.refl _ w).alloc (Nat.le_refl _) _).alloc (by simp) _).alloc (by simp; omega) _).alloc (by simp; omega) _)
  have hsz0 : w0.heap.size = w.heap.size + 4 := by rw [hw0]; simp
  have b2 : Boxed w0 (w.heap.size + 1) 4 (.bool false) := by
    rw [hw0]; have := ((Boxed.new (w.alloc (.cells #[a0, a1, a2, a3, a4, a5, a6, a7] 30)) 4 (.bool false)).alloc (.cells #[.int .i64 0] 3)).alloc (.cells #[a0, a1, a2, a3, a4, a5, a6, a7] 30)
    simpa using this
  have b3 : Boxed w0 (w.heap.size + 2) 3 (.int .i64 0) := by
    rw [hw0]; have := (Boxed.new ((w.alloc (.cells #[a0, a1, a2, a3, a4, a5, a6, a7] 30)).alloc (.cells #[.bool false] 4)) 3 (.int .i64 0)).alloc (.cells #[a0, a1, a2, a3, a4, a5, a6, a7] 30)
    simpa using this
  have b4 : w0.heap[w.heap.size + 3]? = some (.cells (t.arr sv) 30 (0, 0)) := by
    rw [hw0, hA]; have := HK.blk_new (((w.alloc (.cells #[a0, a1, a2, a3, a4, a5, a6, a7] 30)).alloc (.cells #[.bool false] 4)).alloc (.cells #[.int .i64 0] 3)) (.cells #[a0, a1, a2, a3, a4, a5, a6, a7] 30)
    simpa using this
  have hs0 : IsPs w.heap.size w0 sv t.subs := hs.same fun j hj => hb0.block j hj
  have hI0 : MsI w [] w0 := ⟨(fun x hx => by cases hx), by simp, b2, b3, hb0, by omega⟩
  rw [← hw0]
  refine range_told (n := k) rfl (by omega) (gf := 73) (lb := #[.pointer (some ⟨w.heap.size + 3, 0, none⟩)]) rfl trivial (enters_of Try.func73 (by kernel_rfl) rfl)
    (steps_seq (k - 1) w0 t sv (w.heap.size + 3) w.heap.size b4 hs0 (by omega) hsz)
    (fun _ => rfl) (fun x A C h ht => h.turn ht (by omega)) (fun _ _ _ h _ => h) (fun _ _ _ h _ => h)
    (MsI w) (fun c pre W => c = .ret ∧ MsX w pre W)
    (fun _ A C h ht => by rw [hsz0] at ht; exact h.turn ht) (fun _ _ A C h ht => by rw [hsz0] at ht; exact ⟨h.1, h.2.turn ht⟩) hI0
    (MsSafe w) (fun j hj => ⟨by rcases hj with h | h <;> omega, by rcases hj with h | h <;> omega, by rcases hj with h | h <;> omega⟩)
    (fun _ _ _ _ h => h.1) (fun _ A C j _ ht h => ⟨Nat.lt_of_lt_of_le h.1 ht.size, h.2⟩) (fun _ A C j hi _ h1 h2 => by have := hi.hz; exact ⟨h2, by omega, by omega⟩)
    (MsAx w t sv) (fun _ _ A C h ht => h.turn ht) ?assign ?body ?done ?stop
  case assign =>
    intro l pre x W R hI hT hR
    have HN := Lib.hid (And.intro hT.1.sn hT.2.len)
    clear hT
    obtain ⟨⟨pl, wt, ⟨rule, ⟨op, name, ⟨aa, an, ac⟩, ⟨fa, fn, fc⟩, label, ⟨ma, mn, mc⟩⟩, subs⟩⟩, ⟨pa, pn, pc⟩, ⟨sa, sn, sc⟩⟩ := x
    simp only [encS, StepV.cells, PT.rule, PT.o, SL.v]
    gi_wp2
    have hz := hI.hz
    have hb := HK.blk_new W (.cells #[.slice pa pn pc, .int .i64 (wt : Nat), .string rule, .int .u8 op, .string name, .slice aa an ac, .slice fa fn fc, .int .i64 label, .slice sa sn sc, .slice ma mn mc] 92)
    refine hR _ _ ((KeepsOthers.alloc _ _).from _) ⟨by simp, fun j hj hne => ⟨⟨by have := hj.1; simp; omega, hj.2⟩, Below.heap_alloc _ _ _ hj.1⟩⟩ (hI.turn (.of_alloc _ _)) ⟨HN.out.1, HN.out.2, W.heap.size, hz, hb, by rw [hA]; rfl⟩
  case body =>
    intro l pre x a' W hI hax hpl
    obtain ⟨hn1, hn2, Bx, hBx, hX, rfl⟩ := hax
    obtain ⟨⟨pl, wt, ⟨rule, ⟨op, name, ⟨aa, an, ac⟩, ⟨fa, fn, fc⟩, label, ⟨ma, mn, mc⟩⟩, subs⟩⟩, ⟨pa, pn, pc⟩, ⟨sa, sn, sc⟩⟩ := x
    simp only [StepV.cells, PT.rule, PT.o, PT.subs, SL.v] at hX hn1 hn2 ⊢
    rw [hA]
    have hz := hI.hz
    have x0 := HK.blk_cell hX 0
    have x2 := HK.blk_cell hX 2
    have x8 := HK.blk_cell hX 8
    have c3 := hI.rn.cell
    have f3 := hI.rn.frozen
    have c2 := hI.rr.cell
    have f2 := hI.rr.frozen
    have hlen := hI.len
    obtain ⟨L, hL⟩ : ∃ L, L = pre.length := ⟨_, rfl⟩
    have HI := Lib.hid hI
    have HX := Lib.hid hX
    have HL := Lib.hid hL
    have HN1 := Lib.hid hn1
    have HN2 := Lib.hid hn2
    clear hI hX hpl hw0 hsz0 b2 b3 b4 hI0 hb0 hs0 hst hA hs hsz hL hn1 hn2
    rw [← HL.out] at c3 hlen
    by_cases d1 : (300 : Int) < (L : Int) + 1
    · gi_wp2
      have g := HI.out.off ⟨⟨pl, wt, .node rule ⟨op, name, ⟨aa, an, ac⟩, ⟨fa, fn, fc⟩, label, ⟨ma, mn, mc⟩⟩ subs⟩, ⟨pa, pn, pc⟩, ⟨sa, sn, sc⟩⟩ (.inr (by rw [← HL.out]; omega)) w0.heap.size
      rw [← HL.out] at g
      exact ⟨g.1, rfl, g.2⟩
    by_cases d2 : (40 : Int) < (pn : Int)
    · gi_wp2
      have g := HI.out.off ⟨⟨pl, wt, .node rule ⟨op, name, ⟨aa, an, ac⟩, ⟨fa, fn, fc⟩, label, ⟨ma, mn, mc⟩⟩ subs⟩, ⟨pa, pn, pc⟩, ⟨sa, sn, sc⟩⟩ (.inl (okD_off (.inl (by have := HN1.out; show 40 < pl.length; omega)))) w0.heap.size
      rw [← HL.out] at g
      exact ⟨g.1, rfl, g.2⟩
    by_cases d3 : (8 : Int) < (sn : Int)
    · gi_wp2
      have g := HI.out.off ⟨⟨pl, wt, .node rule ⟨op, name, ⟨aa, an, ac⟩, ⟨fa, fn, fc⟩, label, ⟨ma, mn, mc⟩⟩ subs⟩, ⟨pa, pn, pc⟩, ⟨sa, sn, sc⟩⟩ (.inl (okD_off (.inr (.inl (by have := HN2.out; show 8 < subs.length; omega))))) w0.heap.size
      rw [← HL.out] at g
      exact ⟨g.1, rfl, g.2⟩
    by_cases d4 : rule = ⟨#[63]⟩
    · subst d4
      by_cases d5 : (0 : Int) < (sn : Int)
      · gi_wp2
        have g := HI.out.off ⟨⟨pl, wt, .node ⟨#[63]⟩ ⟨op, name, ⟨aa, an, ac⟩, ⟨fa, fn, fc⟩, label, ⟨ma, mn, mc⟩⟩ subs⟩, ⟨pa, pn, pc⟩, ⟨sa, sn, sc⟩⟩ (.inl (okD_off (.inr (.inr ⟨rfl, by have := HN2.out; show 0 < subs.length; omega⟩)))) w0.heap.size
        rw [← HL.out] at g
        exact ⟨g.1, rfl, g.2⟩
      · gi_wp2
        have g := HI.out.on ⟨⟨pl, wt, .node ⟨#[63]⟩ ⟨op, name, ⟨aa, an, ac⟩, ⟨fa, fn, fc⟩, label, ⟨ma, mn, mc⟩⟩ subs⟩, ⟨pa, pn, pc⟩, ⟨sa, sn, sc⟩⟩ (okD_on (by have := HN1.out; show pl.length ≤ 40; omega) (by have := HN2.out; show subs.length ≤ 8; omega) (.inr (by have := HN2.out; show subs.length = 0; omega))) (by rw [← HL.out]; omega) w0.heap.size l
        rw [← HL.out] at g
        exact ⟨g.1, g.2.1, g.2.2⟩
    · have d6 := not_hole d4
      gi_wp2
      have g := HI.out.on ⟨⟨pl, wt, .node rule ⟨op, name, ⟨aa, an, ac⟩, ⟨fa, fn, fc⟩, label, ⟨ma, mn, mc⟩⟩ subs⟩, ⟨pa, pn, pc⟩, ⟨sa, sn, sc⟩⟩ (okD_on (by have := HN1.out; show pl.length ≤ 40; omega) (by have := HN2.out; show subs.length ≤ 8; omega) (.inl d4)) (by rw [← HL.out]; omega) w0.heap.size l
      rw [← HL.out] at g
      exact ⟨g.1, g.2.1, g.2.2⟩
  case done =>
    rintro D ys W hD hS hI hK
    have c2 := hI.rr.cell
    have f2 := hI.rr.frozen
    have HI := Lib.hid hI
    have HM := Lib.hid (meas_done hS hI)
    have HKD := Lib.hid hK
    have HD := Lib.hid hD
    have HSZ := Lib.hid hsz0
    clear hI hS hK hD hw0 hsz0 b2 b3 b4 hI0 hb0 hs0 hst hA hs hsz
    gi_wp2
    have hK2 := (KeepsOthers.setCell W ⟨w.heap.size + 1, 0, none⟩ (.bool true)).same D _ HKD.out rfl
    refine ⟨by simp, .inl ⟨_, _, rfl, run_takeDeferred hK2, ?_⟩⟩
    have hDn : w.heap.size + 1 < D := by have := HD.out; have := HSZ.out; omega
    have t2 := (Boxed.putD (HI.out.rr.set (.bool true)) (D := D) (by omega) (.deferred none)).cell
    refine ⟨.bool true, by simp [results, Try.results45, go_sem, t2], by rw [HM.out], ?_⟩
    exact (HI.out.hB.setCell (p := ⟨w.heap.size + 1, 0, none⟩) (by simp) _).grown (grownBy_putObj' _ D _) (by have := HI.out.hB.size; simp; omega) (fun k e => by cases e; omega)
  case stop =>
    rintro D c pre W hD hpre ⟨rfl, hX⟩ hK
    have HM := Lib.hid (meas_stop hpre hX)
    have HKD := Lib.hid hK
    have HD := Lib.hid hD
    have HX := Lib.hid hX
    have HSZ := Lib.hid hsz0
    clear hX hpre hK hD hw0 hsz0 b2 b3 b4 hI0 hb0 hs0 hst hA hs hsz
    gi_wp2
    refine ⟨by simp, .inl ⟨_, _, rfl, run_takeDeferred HKD.out, ?_⟩⟩
    have hDn : w.heap.size + 1 < D := by have := HD.out; have := HSZ.out; omega
    have t2 := (Boxed.putD HX.out.rr (D := D) (by omega) (.deferred none)).cell
    refine ⟨.bool false, by simp [results, Try.results45, go_sem, t2], by rw [HM.out], ?_⟩
    exact (HX.out.hB).grown (grownBy_putObj' W D _) (by have := HX.out.hB.size; omega) (fun k e => by cases e; omega)
theorem measurable_call (w : World) (t : PT) (sv : SL) (hs : IsPs w.heap.size w sv t.subs) (hsz : sizeT t ≤ 10000) : Calls Try.prog 45 #[.agg (t.arr sv)] w (RetMs w t) :=
  callsIn_wide.1 (measurable_aux 4 (by omega) w t sv hs hsz _ _ _ _ _ _ _ _ rfl)
end Go.Proofs.Ytfebcpmbkljaoaa
