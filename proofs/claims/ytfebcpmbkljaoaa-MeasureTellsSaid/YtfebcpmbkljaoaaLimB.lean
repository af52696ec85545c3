/- MeasureLimits: relations of its loops. -/
import Derived.Test.YtfebcpmbkljaoaaLimp
import Derived.Test.YtfebcpmbkljaoaaWrB
import Derived.Test.YtfebcpmbkljaoaaMeaY
namespace Go.Proofs.Ytfebcpmbkljaoaa
open Go.RowKit Go.HR
set_option linter.unusedVariables false
set_option linter.unusedSimpArgs false
set_option linter.unusedSectionVars false
/-- A step in box B, whose premises lie in a row of the call's own. -/
structure RowB (B base : Nat) (v : SL) (xs : List (PT × SL)) (wr : World) : Prop where
  box : wr.heap[B]? = some (.cells (boxR v.v) 30 (0, 0))
  row : wr.ownsRow base 30 8 v.v xs.length (flatP xs)
  subs : ∀ x ∈ xs, IsPq (fun b => base ≤ b ∧ b < wr.heap.size ∧ v.v.ownBlock ≠ some b) wr x.2 x.1.subs
  lt : B < base
  le : base ≤ wr.heap.size
theorem RowB.next {B base m1 gg cap : Nat} {v : SL} {xs : List (PT × SL)} {wr W8 W7 : World} (h : RowB B base v xs wr) (h8 : Below wr.heap.size wr W8) {x : PT × SL} (hx : IsPq (fun b => wr.heap.size ≤ b ∧ b < W8.heap.size) W8 x.2 x.1.subs)
    (hown : W7.ownsRow 0 30 8 (.slice (some ⟨gg, 0, none⟩) m1 cap) m1 (flatP xs ++ (x.1.arr x.2).toList)) (hm : m1 = xs.length + 1) (hgrow : W8.grownBy W7 v.v.ownBlock) (hat : v.v.ownBlock = some gg ∨ gg = W8.heap.size) :
    RowB B base ⟨some ⟨gg, 0, none⟩, m1, cap⟩ (xs ++ [x]) (W7.setCell ⟨B, 6, none⟩ (.slice (some ⟨gg, 0, none⟩) m1 cap)) ∧ ∀ Q, Q ≤ B → Below Q wr (W7.setCell ⟨B, 6, none⟩ (.slice (some ⟨gg, 0, none⟩) m1 cap)) := by
  subst hm
  have hlt := h.lt
  have hle := h.le
  have hz8 := h8.size
  have hz7 := hgrow.size
  have hv : ∀ b, v.v.ownBlock = some b → base ≤ b ∧ b < wr.heap.size := fun b hb => h.row.lt b hb
  have hlb := HK.blk_lt h.box
  have hgg : base ≤ gg := by
    rcases hat with e | e
    · exact (hv gg e).1
    · omega
  have hx7 := HK.blk_grown2 hgrow ((h8.block _ hlb).trans h.box) (fun e => by have := (hv _ e.symm).1; omega)
  have hF : HK.Frm (· = B) W7 (W7.setCell ⟨B, 6, none⟩ (.slice (some ⟨gg, 0, none⟩) (xs.length + 1) cap)) := HK.Frm.setCell (F := (· = B)) (p := ⟨B, 6, none⟩) (HK.Frm.refl _ W7) (.inl rfl) _
  have hzF := hF.size
  have hb7 : ∀ Q, Q ≤ B → Below Q wr W7 := fun Q hQ => (h8.mono (by omega)).grown hgrow (by omega) (fun b e => by have := (hv b e).1; omega)
  refine ⟨⟨HK.blk_set hx7 6 _, ?_, fun y hy => ?_, hlt, by omega⟩, fun Q hQ => (hb7 Q hQ).setCell (p := ⟨B, 6, none⟩) hQ _⟩
  · refine HK.owns_setCell ?_ (p := ⟨B, 6, none⟩) (by simp [Value.ownBlock, SL.v]; omega) _
    rw [flatP_on, List.length_append, List.length_singleton]
    exact own_next (W0 := W8) h.row (by omega) hown hat
  · rcases List.mem_append.1 hy with hy | hy
    · refine (h.subs y hy).turn fun b hb => ⟨⟨hb.1, by omega, ?_⟩, ?_⟩
      · simp only [SL.v, Value.ownBlock, ne_eq, Option.some.injEq]
        intro e
        rcases hat with e2 | e2
        · exact hb.2.2 (by rw [e2, e])
        · omega
      · exact (hF.block b (by omega) (by omega)).trans ((hgrow.block b (by omega) (fun e => hb.2.2 e.symm)).trans (h8.block b hb.2.1))
    · rw [List.mem_singleton.1 hy]
      refine hx.turn fun b hb => ⟨⟨by omega, by omega, ?_⟩, ?_⟩
      · simp only [SL.v, Value.ownBlock, ne_eq, Option.some.injEq]
        intro e
        rcases hat with e2 | e2
        · have := (hv _ e2).2; omega
        · omega
      · exact (hF.block b (by omega) (by omega)).trans (hgrow.block b hb.2 (fun e => by have := (hv b e.symm).2; omega))
/-- What the switch leaves in box B. -/
def badOf (k : Nat) (bd : PT) : Prop := measT bd = false ∧ plainT bd ∧ sizeT bd ≤ 1200 ∧ (k = 3 → measT (.node ruleR PO.nil [bd, bd]) = false)
def SwR (w5 : World) (B k : Nat) (wx : World) : Prop := ∃ (bd : PT) (sq : SL), badOf k bd ∧ wx.heap[B]? = some (.cells (bd.arr sq) 30 (0, 0)) ∧ IsPq (fun b => b < wx.heap.size ∧ b ≠ B) wx sq bd.subs ∧ Below w5.heap.size w5 wx
theorem RowB.done {w5 wr : World} {B base k : Nat} {v : SL} {xs : List (PT × SL)} (h : RowB B base v xs wr) (hb : badOf k (.node ruleR PO.nil (xs.map (·.1)))) (hB : Below w5.heap.size w5 wr) (hn : 0 < xs.length) : SwR w5 B k wr := by
  have hlt := h.lt
  refine ⟨_, v, hb, h.box, ?_, hB⟩
  obtain ⟨g, cap, hv, hg1, hg2⟩ := h.row.form hn
  obtain ⟨va, vn, vc⟩ := v
  simp only [SL.v, Value.slice.injEq] at hv
  obtain ⟨rfl, rfl, rfl⟩ := hv
  exact pq_row h.row ⟨hg2, by omega⟩ fun x hx => (h.subs x hx).turn fun b hb => ⟨⟨hb.2.1, by omega⟩, rfl⟩
theorem bad_of0 : badOf 0 holeP := ⟨bad_hole, ⟨rfl, rfl, rfl, plain_hole, trivial⟩, by simp [holeP, holeT, sizeT, sizeF], fun h => by cases h⟩
theorem bad_of1 : badOf 1 (stepK 9) := ⟨bad_nine, stepK_plain 9, by rw [stepK_size]; omega, fun h => by cases h⟩
theorem bad_of2 : badOf 2 (nestT 41) := ⟨bad_deep, plain_nest 41, by rw [nest_size]; omega, fun h => by cases h⟩
theorem bad_of3 : badOf 3 (bigT 8) := ⟨bad_big, plain_big 8, by rw [big_size]; omega, fun _ => bad_whole⟩
/-- A nest in box B. -/
def NestR (w5 : World) (B j : Nat) (wr : World) : Prop := ∃ sq : SL, wr.heap[B]? = some (.cells ((nestT j).arr sq) 30 (0, 0)) ∧ IsPq (fun b => b < wr.heap.size ∧ b ≠ B) wr sq (nestT j).subs ∧ Below w5.heap.size w5 wr
def fulS : List PT := fulT.subs
theorem ful_eq : fulT = .node ruleR PO.nil fulS := by
  have h1 : fulT.rule = ruleR := by decide +kernel
  have h2 : fulT.o = PO.nil := by
    have := built_plain (List.replicate 60 4)
    unfold fulT builtT mkT
    rfl
  unfold fulS
  generalize fulT = t at *
  obtain ⟨r, o, s⟩ := t
  simp only [PT.rule, PT.o] at h1 h2
  rw [h1, h2]; rfl
theorem built_full (w : World) (g c : Nat) (h : BytesAt w (some ⟨g, 0, none⟩) 60 (List.replicate 60 4)) : Calls Try.prog 10 #[.slice (some ⟨g, 0, none⟩) 60 c] w fun e w' => ∃ (ba : Option Addr) (bn bc : Nat), e = .returned (.agg (boxR (.slice ba bn bc))) ∧ IsPq (fun k => w.heap.size ≤ k ∧ k < w'.heap.size) w' ⟨ba, bn, bc⟩ fulS ∧ Below w.heap.size w w' := by
  refine (built_call w (some ⟨g, 0, none⟩) 60 c _ h).mono ?_
  rintro e w' ⟨⟨ba, bn, bc⟩, rfl, hq, hB⟩
  refine ⟨ba, bn, bc, ?_, hq, hB⟩
  show Ending.returned (.agg (fulT.arr _)) = _
  rw [ful_eq]; rfl
theorem fill_of {cur : Array Value} {xs : List (PT × SL)} (h : cur.toList = flatP xs) : RowFill cur xs := fun i x hx j v hv => by
  rw [← Array.getElem?_toList, h]; exact flatP_fill xs i x hx j v hv
theorem pq_one {S : Nat → Prop} {W : World} {R c : Nat} {q : PT} {s : SL} (h : W.heap[R]? = some (.cells (q.arr s) 30 (0, 0))) (hS : S R) (hs : IsPq S W s q.subs) : IsPq S W ⟨some ⟨R, 0, none⟩, 1, c⟩ [q] :=
  fill_pq (xs := [(q, s)]) h (fill_of (by simp [flatP])) rfl hS fun x hx => by rw [List.mem_singleton.1 hx]; exact hs
theorem pq_two {S : Nat → Prop} {W : World} {R c : Nat} {q p : PT} {s v : SL} (h : W.heap[R]? = some (.cells (q.arr s ++ p.arr v) 30 (0, 0))) (hS : S R) (hs : IsPq S W s q.subs) (hv : IsPq S W v p.subs) : IsPq S W ⟨some ⟨R, 0, none⟩, 2, c⟩ [q, p] :=
  fill_pq (xs := [(q, s), (p, v)]) h (fill_of (by simp [flatP])) rfl hS fun x hx => by
    rcases List.mem_cons.1 hx with rfl | hx
    · exact hs
    · rw [List.mem_singleton.1 hx]; exact hv
theorem step_box (W : World) (a : Option Addr) (n c : Nat) : Calls Try.prog 28 #[.slice a n c] W fun e w' => e = .returned (.agg (boxR (.slice a n c))) ∧ Below W.heap.size W w' := by
  refine (step_call W ⟨a, n, c⟩ []).mono ?_
  rintro e w' ⟨rfl, hB⟩
  exact ⟨rfl, hB⟩
/-- A new step without premises in box B. -/
theorem RowB.start {B : Nat} {W : World} {v : Value} (h : W.heap[B]? = some (.cells (boxR (.slice none 0 0)) 30 (0, 0))) : RowB B W.heap.size ⟨none, 0, 0⟩ [] W :=
  ⟨h, World.ownsRow_nil _ _ _ _, (fun x hx => by cases hx), HK.blk_lt h, Nat.le_refl _⟩
/-- A nest grows. -/
theorem NestR.next {w5 wr w8 W' : World} {B R m : Nat} {q : PT} {sq : SL} {z0 z1 z2 z3 z4 z5 z6 z7 : Value} (hw5 : w5.heap.size ≤ B) (hq : q = nestT m) (hBr : B < wr.heap.size) (hS : IsPq (fun b => b < wr.heap.size ∧ b ≠ B) wr sq q.subs) (hB : Below w5.heap.size w5 wr)
    (hB8 : Below wr.heap.size wr w8) (hR : w8.heap[R]? = some (.cells (q.arr sq) 30 (0, 0))) (hRr : wr.heap.size ≤ R) (hz : w8.heap[B]? = some (.cells #[z0, z1, z2, z3, z4, z5, z6, z7] 30 (0, 0)))
    (hW : W' = (((((((w8.setCell ⟨B, 0, none⟩ (.string ⟨#[114]⟩)).setCell ⟨B, 1, none⟩ (.int .u8 0)).setCell ⟨B, 2, none⟩ (.string ⟨#[]⟩)).setCell ⟨B, 3, none⟩ (.slice none 0 0)).setCell ⟨B, 4, none⟩ (.slice none 0 0)).setCell ⟨B, 5, none⟩ (.int .i64 0)).setCell ⟨B, 6, none⟩ (.slice (some ⟨R, 0, none⟩) 1 1)).setCell ⟨B, 7, none⟩ (.slice none 0 0)) : NestR w5 B (m + 1) W' := by
  subst hW
  have hF := set8_frm w8 B (.string ⟨#[114]⟩) (.int .u8 0) (.string ⟨#[]⟩) (.slice none 0 0) (.slice none 0 0) (.int .i64 0) (.slice (some ⟨R, 0, none⟩) 1 1) (.slice none 0 0)
  have hz8 := hF.size
  have h58 := below_then hB hB8
  have hR2 := HK.blk_lt hR
  have h5z := h58.size
  refine ⟨⟨some ⟨R, 0, none⟩, 1, 1⟩, set8 hz _ _ _ _ _ _ _ _, ?_, h58.trans (hF.below h58.size (fun b e => by omega))⟩
  show IsPq _ _ _ [nestT m]
  rw [← hq]
  refine pq_one ((hF.block R hR2 (by omega)).trans hR) ⟨by omega, by omega⟩ (hS.turn fun b hb => ⟨⟨?_, hb.2⟩, (hF.block b ?_ hb.2).trans (hB8.block b hb.1)⟩)
  · have := hB8.size; omega
  · have := hB8.size; omega
theorem NestR.done {w5 wr : World} {B : Nat} (h : NestR w5 B 41 wr) : SwR w5 B 2 wr := by
  obtain ⟨sq, h1, h2, h3⟩ := h
  exact ⟨nestT 41, sq, bad_of2, h1, h2, h3⟩
theorem own_below {W W' : World} {b e size n : Nat} {v : Value} {xs : List Value} (h : W.ownsRow b e size v n xs) (hB : Below W.heap.size W W') : W'.ownsRow b e size v n xs := by
  refine ⟨h.1, ?_⟩
  rcases h.2 with h0 | ⟨g, cap, cur, hv, hg, hh, r⟩
  · exact .inl h0
  · exact .inr ⟨g, cap, cur, hv, hg, (hB.block g (HK.blk_lt hh)).trans hh, r⟩
theorem duo_pq {wr wf wg wf2 wg2 ws : World} {o : Obj} {ba da : Option Addr} {bn bc dn dc : Nat} (h0 : Below wr.heap.size wr wf) (hq1 : IsPq (fun k => wf.heap.size ≤ k ∧ k < wg.heap.size) wg ⟨ba, bn, bc⟩ fulS) (h1 : Below wf.heap.size wf wg) (h2 : Below wg.heap.size wg wf2)
    (hq2 : IsPq (fun k => wf2.heap.size ≤ k ∧ k < wg2.heap.size) wg2 ⟨da, dn, dc⟩ fulS) (h3 : Below wf2.heap.size wf2 wg2) (hs : Below (wg2.alloc o).heap.size (wg2.alloc o) ws) (hR : ws.heap[wg2.heap.size]? = some (.cells (boxR (.slice ba bn bc) ++ boxR (.slice da dn dc)) 30 (0, 0))) :
    IsPq (fun b => wr.heap.size ≤ b ∧ b < ws.heap.size) ws ⟨some ⟨wg2.heap.size, 0, none⟩, 2, 2⟩ duoT.subs := by
  have z0 := h0.size
  have z1 := h1.size
  have z2 := h2.size
  have z3 := h3.size
  have z4 := hs.size
  have hb : Below wg2.heap.size wg2 ws := below_then (bl_al (Below.refl _ _)) hs
  have zb := hb.size
  have hRl := HK.blk_lt hR
  show IsPq _ _ _ [fulT, fulT]
  have hf : fulT.subs = fulS := rfl
  have hfa : ∀ s : SL, fulT.arr s = boxR s.v := fun s => by rw [ful_eq]; rfl
  refine pq_two (s := ⟨ba, bn, bc⟩) (v := ⟨da, dn, dc⟩) (by rw [hfa, hfa]; exact hR) ⟨by omega, hRl⟩ ?_ ?_
  · rw [hf]
    have hb1 : Below wg.heap.size wg ws := below_then (below_then h2 h3) hb
    exact hq1.turn fun b hb2 => ⟨⟨by omega, by omega⟩, hb1.block b hb2.2⟩
  · rw [hf]
    exact hq2.turn fun b hb2 => ⟨⟨by omega, by omega⟩, hb.block b hb2.2⟩
/-- The whole that is looked at, in box V. -/
def WhR (wa : World) (V : Nat) (wx : World) : Prop := ∃ (wh : PT) (sw : SL), measT wh = false ∧ plainT wh ∧ sizeT wh ≤ 3000 ∧ wx.heap[V]? = some (.cells (wh.arr sw) 30 (0, 0)) ∧ IsPs wx.heap.size wx sw wh.subs ∧ Below wa.heap.size wa wx
theorem run_app00 {P : Program} {w : World} {t ty e size bytes : Nat} (E : HK.ElemOk P t e size bytes) (ad : Addr) (n cap : Nat) (xa : Option Addr) (c : Nat) (hn : n ≤ cap) : (Builtin.append_ #[t, t] ty #[.slice (some ad) n cap, .slice xa 0 c]).run P w = .ok (.slice (some ad) n cap) w := by
  obtain ⟨ht, i, z, hi, h0, h2, h3, h4, h5⟩ := E
  cases xa <;> simp [Builtin.append_, run_underlying ht, sizeOf, typeInfo, hi, Builtin.lenOf, Builtin.firstCells, hn, storeCells, loadCells, loadCellsFrom]
theorem step_app00 {P : Program} {w : World} {ops : Array Oper} {o : Oper} {a : Act} {Q : Exit → Act → World → Prop} {K : Act → World → Prop} {R : Prop} (d : Nat) (hd : o.dst = some d) (hgd : o.guard = none) {t e size bytes : Nat} (E : HK.ElemOk P t e size bytes) (s x : Operand)
    (ho : o.op = .call { callee := .builtin .append, args := #[s, x], argTypes := #[t, t] }) (ad : Addr) (n cap : Nat) (xa : Option Addr) (c : Nat) (hn : n ≤ cap) (hs : a.eval s = .slice (some ad) n cap) (hx : a.eval x = .slice xa 0 c)
    (h : K (a.put o.dst (.slice (some ad) n cap)) w) : if Region.wanted o (yielded ops a.tmps) = true then Oper.wp P o a w K Q else R := by
  rw [if_pos (by simp [Region.wanted, hgd])]
  have hr := run_app00 (w := w) (ty := o.type) E ad n cap xa c hn
  unfold Oper.wp execOp
  simp only [ho, resolve, invoke, builtin, Sem.run_bind, Sem.run_pure, Result.andThen_ok, List.map_toArray, List.map_cons, List.map_nil, hs, hx, hr]
  exact h
theorem empty_row3 {W : World} {b : Nat} (h : W.heap[b]? = some (.cells #[] 3 (0, 0))) : W.ownsRow 0 3 1 (.slice (some ⟨b, 0, none⟩) 0 0) 0 [] :=
  ⟨rfl, .inr ⟨b, 0, #[], rfl, Nat.zero_le _, h, Nat.le_refl _, by decide, rfl, rfl⟩⟩
theorem isI_own {W : World} {b g n c : Nat} {xs : List Int} (h : W.ownsRow b 3 1 (.slice (some ⟨g, 0, none⟩) n c) n (xs.map fun i => .int .i64 i)) : IsI W ⟨some ⟨g, 0, none⟩, n, c⟩ xs := by
  have hl : n = xs.length := by have := h.1; simpa using this.symm
  refine ⟨hl, ?_, .inr ⟨g, 0, rfl, fun j x hx => ?_⟩⟩
  · rcases h.2 with ⟨h0, _⟩ | ⟨g', cap, cur, hv, _, _, hc, _⟩
    · cases h0
    · simp only [Value.slice.injEq] at hv
      obtain ⟨_, _, rfl⟩ := hv
      exact hc
  · rw [Nat.zero_add]
    have := h.cells (g := g) rfl j (.int .i64 x) (by rw [List.getElem?_map, hx]; rfl)
    rw [add_zero_at] at this
    exact this
/-- The place, and a number behind it. -/
theorem ints_more (pl : List Nat) (m : Int) : ints pl ++ [.int .i64 m] = (natI pl ++ [m]).map fun i => .int .i64 i := by simp [ints, natI, List.map_map]
theorem cell_set8 {W : World} {D P k : Nat} {v0 v1 v2 v3 v4 v5 v6 v7 : Value} (hP : P < W.heap.size) (h : P ≠ D) :
    ((((((((W.setCell ⟨D, 0, none⟩ v0).setCell ⟨D, 1, none⟩ v1).setCell ⟨D, 2, none⟩ v2).setCell ⟨D, 3, none⟩ v3).setCell ⟨D, 4, none⟩ v4).setCell ⟨D, 5, none⟩ v5).setCell ⟨D, 6, none⟩ v6).setCell ⟨D, 7, none⟩ v7).cell? ⟨P, k, none⟩ = W.cell? ⟨P, k, none⟩ :=
  World.cell?_of_block ((set8_frm W D v0 v1 v2 v3 v4 v5 v6 v7).block P hP h)
theorem below_set8 {w16 w8 W' : World} {D : Nat} {v0 v1 v2 v3 v4 v5 v6 v7 : Value} (hB : Below w16.heap.size w16 w8) (hD : w16.heap.size ≤ D)
    (hW : W' = (((((((w8.setCell ⟨D, 0, none⟩ v0).setCell ⟨D, 1, none⟩ v1).setCell ⟨D, 2, none⟩ v2).setCell ⟨D, 3, none⟩ v3).setCell ⟨D, 4, none⟩ v4).setCell ⟨D, 5, none⟩ v5).setCell ⟨D, 6, none⟩ v6).setCell ⟨D, 7, none⟩ v7) : Below w16.heap.size w16 W' := by
  subst hW
  exact hB.trans ((set8_frm w8 D v0 v1 v2 v3 v4 v5 v6 v7).below hB.size (fun b e => by omega))
theorem isI_new {W : World} {g : Nat} {m : Int} (h : W.heap[g]? = some (.cells #[.int .i64 m] 3 (0, 0))) : IsI W ⟨some ⟨g, 0, none⟩, 1, 1⟩ [m] :=
  ⟨rfl, Nat.le_refl _, .inr ⟨_, 0, rfl, fun j x hx => by
    cases j with
    | zero => simp at hx; subst hx; exact HK.blk_cell h 0
    | succ j => simp at hx⟩⟩
/-- append of a place onto an empty row. -/
theorem step_place {w : World} {ops : Array Oper} {o : Oper} {a : Act} {Q : Exit → Act → World → Prop} {K : Act → World → Prop} {R : Prop} (d : Nat) (hd : o.dst = some d) (hgd : o.guard = none) (s x : Operand)
    (ho : o.op = .call { callee := .builtin .append, args := #[s, x], argTypes := #[37, 37] }) (e : Nat) (hs : a.eval s = .slice (some ⟨e, 0, none⟩) 0 0) (he : w.heap[e]? = some (.cells #[] 3 (0, 0))) (pa : Option Addr) (pn pc : Nat) (pl : List Nat) (hx : a.eval x = .slice pa pn pc) (hpl : PlaceB w ⟨pa, pn, pc⟩ pl) (hl : pl.length ≤ 20000)
    (h : ∀ g cap w', w'.ownsRow 0 3 1 (.slice (some ⟨g, 0, none⟩) pn cap) pn (ints pl) → w.grownBy w' (some e) → (g = e ∨ g = w.heap.size) → K (a.put o.dst (.slice (some ⟨g, 0, none⟩) pn cap)) w') :
    if Region.wanted o (yielded ops a.tmps) = true then Oper.wp Try.prog o a w K Q else R := by
  have hpn : pn = pl.length := hpl.sn
  by_cases h0 : pl.length = 0
  · have hl0 : pl = [] := List.length_eq_zero_iff.1 h0
    subst hl0
    simp only [List.length_nil] at hpn
    subst hpn
    exact step_app00 d hd hgd elem3 s x ho ⟨e, 0, none⟩ 0 0 pa pc (Nat.le_refl _) hs hx (h e 0 w (empty_row3 he) ⟨rfl, rfl, rfl, Nat.le_refl _, fun _ _ _ => rfl⟩ (.inl rfl))
  · obtain ⟨g', cap', hv, _, _⟩ := hpl.form (by omega)
    simp only [SL.v, Value.slice.injEq] at hv
    obtain ⟨rfl, _, _⟩ := hv
    rw [if_pos (by simp [Region.wanted, hgd])]
    have hcells := World.ownsRow.cells (g := g') hpl rfl
    obtain ⟨ht, i, z, hi, q0, q2, q3, q4, q5⟩ := elem3
    refine wp_append_lies w s x 37 ho 0 3 i z 1 8 ht hi q0 q2 q3 q4 q5 (.slice (some ⟨e, 0, none⟩) 0 0) 0 [] hs (empty_row3 he) ⟨g', 0, none⟩ pn pc (ints pl) hx (by simp [ints, hpn]) hcells (fun u hu => by simp only [ints, List.mem_map] at hu; obtain ⟨k, _, rfl⟩ := hu; rfl) (by omega) (by simp only [maxLen]; omega) (by omega) (Nat.zero_le _) _ rfl ?_
    intro g cap w' h2 h3 h4 h5
    rw [Nat.zero_add, List.nil_append] at h2
    rw [Nat.zero_add]
    refine h g cap w' h2 h3 ?_
    rcases h4 with h4 | h4
    · simp only [Value.ownBlock, Option.some.injEq] at h4
      exact .inl h4.symm
    · exact .inr h4
theorem place_up {W W' : World} {s : SL} {pl : List Nat} (h : PlaceB W s pl) (hB : Below W.heap.size W W') : PlaceB W' s pl := h.same fun k hk => hB.block k (h.lt hk)
theorem grown_below {w W w' : World} {e : Nat} (hW : Below w.heap.size w W) (hg : W.grownBy w' (some e)) (he : w.heap.size ≤ e) : Below w.heap.size w w' :=
  hW.grown hg hW.size (fun k h => by simp only [Option.some.injEq] at h; omega)
end Go.Proofs.Ytfebcpmbkljaoaa
