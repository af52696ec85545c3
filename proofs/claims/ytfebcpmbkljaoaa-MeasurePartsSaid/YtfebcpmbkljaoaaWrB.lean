/- MeasureWrong: relations of its loops. -/
import Derived.Test.YtfebcpmbkljaoaaWrA
import Derived.Test.YtfebcpmbkljaoaaWith
import Derived.Test.YtfebcpmbkljaoaaAt
import Derived.Deep.AppendLies
import Derived.Test.YtfebcpmbkljaoaaMeaY
namespace Go.Proofs.Ytfebcpmbkljaoaa
open Go.RowKit Go.HR
set_option linter.unusedVariables false
set_option linter.unusedSimpArgs false
set_option linter.unusedSectionVars false
/-- The wrong places in memory. -/
def WrR (w3 : World) (t : PT) (ws : List (List Nat)) (v : Value) (wx : World) : Prop := ∃ (va : Option Addr) (vn vc : Nat) (xs : List (List Nat × SL)), v = .slice va vn vc ∧ xs.map (·.1) = ws.map (fun u => placeT t (u.take 12)) ∧ PRow wx w3.heap.size ⟨va, vn, vc⟩ xs ∧ Below w3.heap.size w3 wx ∧ (xs = [] → va = none ∧ vc = 0)
/-- The cut in memory: its box is C. -/
def CutR (wz : World) (C : Nat) (cu : PT) (wx : World) : Prop := ∃ sq : SL, wx.heap[C]? = some (.cells (cu.arr sq) 30 (0, 0)) ∧ IsPq (fun b => b < wx.heap.size ∧ b ≠ C) wx sq cu.subs ∧ Below C wz wx
theorem empty_row {W : World} {b : Nat} (h : W.heap[b]? = some (.cells #[] 37 (0, 0))) : W.ownsRow 0 37 1 (.slice (some ⟨b, 0, none⟩) 0 0) 0 [] :=
  ⟨rfl, .inr ⟨b, 0, #[], rfl, Nat.zero_le _, h, Nat.le_refl _, by decide, rfl, rfl⟩⟩
/-- The cells of a row of places. -/
theorem PRow.news {W : World} {b : Nat} {v : SL} {xs : List (List Nat × SL)} (h : PRow W b v xs) {ad : Addr} (ha : v.a = some ad) : ∀ (j : Nat) u, (xs.map fun x => x.2.v)[j]? = some u → W.cell? (ad.add j) = some u := fun j u hu => by
  rcases h.1.2 with ⟨h0, h1⟩ | ⟨g, cap, cur, hv, hg, hh, r⟩
  · rw [List.length_eq_zero_iff.1 h1] at hu; simp at hu
  · have hv2 := hv
    simp only [SL.v, Value.slice.injEq] at hv2
    obtain ⟨h2, _⟩ := hv2
    rw [ha] at h2; cases h2
    exact h.1.cells (g := g) (by rw [hv]; rfl) j u hu
theorem place_grown {W W1 : World} {b m : Nat} {v1 : Value} {ys : List Value} (hr : W.ownsRow b 37 1 v1 m ys) (hgrow : W.grownBy W1 v1.ownBlock) {s : SL} {pl : List Nat} (h : PlaceB W s pl) : PlaceB W1 s pl :=
  h.same fun k hk => hgrow.block k (h.lt hk) fun e => by
    rcases h.2 with ⟨h0, _⟩ | ⟨g', cap', cur', hv', hg', hh', r'⟩
    · rw [h0] at hk; cases hk
    · rw [hv'] at hk
      simp only [Value.ownBlock, Option.some.injEq] at hk
      subst hk
      rcases hr.2 with ⟨h0, _⟩ | ⟨g2, cap2, cur2, hv2, hg2, hh2, r2⟩
      · rw [h0] at e; cases e
      · rw [hv2] at e
        simp only [Value.ownBlock, Option.some.injEq] at e
        subst e
        rw [hh'] at hh2; simp at hh2
/-- A row of places, and the same once more behind it. -/
theorem PRow.twice {W1 W2 : World} {g1 g2 c1 c2 n1 N2 : Nat} {xs : List (List Nat × SL)} (hp : ∀ x ∈ xs, PlaceB W1 x.2 x.1)
    (ho1 : W1.ownsRow 0 37 1 (.slice (some ⟨g1, 0, none⟩) n1 c1) n1 (xs.map fun x => x.2.v)) (hg2 : W1.grownBy W2 (some g1))
    (ho2 : W2.ownsRow 0 37 1 (.slice (some ⟨g2, 0, none⟩) N2 c2) N2 ((xs.map fun x => x.2.v) ++ (xs.map fun x => x.2.v))) (hN : xs.length + xs.length = N2) : PRow W2 0 ⟨some ⟨g2, 0, none⟩, N2, c2⟩ (xs ++ xs) := by
  subst hN
  refine ⟨?_, fun x hx => ?_⟩
  · simp only [SL.v, List.length_append, List.map_append]; exact ho2
  · have hx : x ∈ xs := by rcases List.mem_append.1 hx with hx | hx <;> exact hx
    exact place_grown ho1 hg2 (hp x hx)
theorem goalsL_pl {t : PT} {ws : List (List Int)} : ∀ d ∈ goalsL t ws, d.pl.length ≤ 40 := fun d h => by
  unfold goalsL at h
  split at h
  · rename_i hc
    have hm : measT t = true := by
      unfold codeL at hc; split at hc
      · assumption
      · cases hc
    unfold measT at hm
    exact okD_pl (List.all_eq_true.1 (Bool.and_eq_true_iff.1 hm).2 d ((goals_sub _ _ _ _).subset h))
  · cases h
theorem gs_at {gs : List StepV} {G : List StepD} (h : gs.map (·.d) = G) {i : Nat} {d : StepD} (hd : G[i]? = some d) : ∃ x, gs[i]? = some x ∧ x.d = d := by
  subst h
  rw [List.getElem?_map, Option.map_eq_some_iff] at hd
  exact hd
theorem view_at {G G2 : List StepD} (h : G2.map viewD = G.map viewD) {i : Nat} {d : StepD} (hd : G[i]? = some d) : ∃ d2, G2[i]? = some d2 ∧ d2.pl = d.pl ∧ d2.wt = d.wt := by
  have h1 := congrArg (fun l => l[i]?) h
  simp only [List.getElem?_map, hd, Option.map_some] at h1
  obtain ⟨d2, h2, h3⟩ := Option.map_eq_some_iff.1 h1
  simp only [viewD, Prod.mk.injEq] at h3
  exact ⟨d2, h2, h3.1, h3.2⟩
theorem ints_quiet {W : World} {q : Nat} {s t : SL} {xs : List Int} (hs : IsI W s xs) (ht : IsI W t xs) (hl : xs.length ≤ 20000) :
    Calls Try.prog 26 #[s.v, t.v] (W.drewN q) fun e w'' => e = .returned (.bool true) ∧ ∃ m, w'' = W.drewN m :=
  (ints_call (W.drewN q) s t xs xs (hs.below ⟨rfl, rfl, rfl, Nat.le_refl _, fun _ _ => rfl⟩) (ht.below ⟨rfl, rfl, rfl, Nat.le_refl _, fun _ _ => rfl⟩) hl hl).mono fun _ _ ⟨he, d, hd⟩ => ⟨by rw [he]; simp, q + d, by rw [hd]; simp⟩
theorem step_appm {P : Program} {w : World} {ops : Array Oper} {o : Oper} {a : Act} {Q : Exit → Act → World → Prop} {K : Act → World → Prop} {R : Prop} (d : Nat) (hd : o.dst = some d) (hgd : o.guard = none) {t e size bytes : Nat} (E : HK.ElemOk P t e size bytes) (s x : Operand)
    (ho : o.op = .call { callee := .builtin .append, args := #[s, x], argTypes := #[t, t] }) (v : Value) (n : Nat) (xs : List Value) (hs : a.eval s = v) (hown : w.ownsRow 0 e size v n xs)
    (ad : Addr) (m c : Nat) (news : List Value) (hx : a.eval x = .slice (some ad) m c) (hl : news.length = m * size) (hnews : ∀ (j : Nat) u, news[j]? = some u → w.cell? (ad.add j) = some u) (h1 : ∀ u ∈ news, u.oneCell' = true)
    (nm : Nat) (hnm : n + m = nm) (hm : 0 < m) (h63 : n + m ≤ maxLen) (hbytes : (n + m) * bytes ≤ 140737488355328)
    (h : ∀ g cap w', w'.ownsRow 0 e size (.slice (some ⟨g, 0, none⟩) nm cap) nm (xs ++ news) → w.grownBy w' v.ownBlock → (v.ownBlock = some g ∨ g = w.heap.size) → g < w'.heap.size → K (a.put o.dst (.slice (some ⟨g, 0, none⟩) nm cap)) w') :
    if Region.wanted o (yielded ops a.tmps) = true then Oper.wp P o a w K Q else R := by
  subst hnm
  obtain ⟨ht, i, z, hi, h0, h2, h3, h4, h5⟩ := E
  rw [if_pos (by simp [Region.wanted, hgd])]
  exact wp_append_lies w s x t ho 0 e i z size bytes ht hi h0 h2 h3 h4 h5 v n xs hs hown ad m c news hx hl hnews h1 hm h63 hbytes (Nat.zero_le _) _ rfl h
/-- append of nothing. -/
theorem run_app0 {P : Program} {w : World} {t ty e size bytes : Nat} (E : HK.ElemOk P t e size bytes) (ad : Addr) (n cap : Nat) (hn : n ≤ cap) : (Builtin.append_ #[t, t] ty #[.slice (some ad) n cap, .slice none 0 0]).run P w = .ok (.slice (some ad) n cap) w := by
  obtain ⟨ht, i, z, hi, h0, h2, h3, h4, h5⟩ := E
  simp [Builtin.append_, run_underlying ht, sizeOf, typeInfo, hi, Builtin.lenOf, Builtin.firstCells, hn, storeCells]
theorem step_app0 {P : Program} {w : World} {ops : Array Oper} {o : Oper} {a : Act} {Q : Exit → Act → World → Prop} {K : Act → World → Prop} {R : Prop} (d : Nat) (hd : o.dst = some d) (hgd : o.guard = none) {t e size bytes : Nat} (E : HK.ElemOk P t e size bytes) (s x : Operand)
    (ho : o.op = .call { callee := .builtin .append, args := #[s, x], argTypes := #[t, t] }) (ad : Addr) (n cap : Nat) (hn : n ≤ cap) (hs : a.eval s = .slice (some ad) n cap) (hx : a.eval x = .slice none 0 0)
    (h : K (a.put o.dst (.slice (some ad) n cap)) w) : if Region.wanted o (yielded ops a.tmps) = true then Oper.wp P o a w K Q else R := by
  rw [if_pos (by simp [Region.wanted, hgd])]
  have hr := run_app0 (w := w) (ty := o.type) E ad n cap hn
  unfold Oper.wp execOp
  simp only [ho, resolve, invoke, builtin, Sem.run_bind, Sem.run_pure, Result.andThen_ok, List.map_toArray, List.map_cons, List.map_nil, hs, hx, hr]
  exact h
theorem cut_endA {wr w8 : World} {D : Nat} {z0 z1 z2 z3 z4 z5 z6 z7 : Value} {sq : SL} {Rs : List PT} (hz : w8.heap[D]? = some (.cells #[z0, z1, z2, z3, z4, z5, z6, z7] 30 (0, 0))) (hD : wr.heap.size ≤ D) (hD2 : D < wr.heap.size + 2) (hq : IsPq (fun k => wr.heap.size + 2 ≤ k ∧ k < w8.heap.size) w8 sq Rs) (hb : Below wr.heap.size wr w8) (v0 v1 v2 v3 v4 v5 v6 v7 : Value) {W' : World}
    (hW : W' = (((((((w8.setCell ⟨D, 0, none⟩ v0).setCell ⟨D, 1, none⟩ v1).setCell ⟨D, 2, none⟩ v2).setCell ⟨D, 3, none⟩ v3).setCell ⟨D, 4, none⟩ v4).setCell ⟨D, 5, none⟩ v5).setCell ⟨D, 6, none⟩ v6).setCell ⟨D, 7, none⟩ v7) :
    wr.heap.size ≤ D ∧ W'.heap[D]? = some (.cells #[v0, v1, v2, v3, v4, v5, v6, v7] 30 (0, 0)) ∧ IsPq (fun b => wr.heap.size ≤ b ∧ b < W'.heap.size ∧ b ≠ D) W' sq Rs ∧ Below wr.heap.size wr W' := by
  subst hW
  have hF := set8_frm w8 D v0 v1 v2 v3 v4 v5 v6 v7
  refine ⟨hD, set8 hz _ _ _ _ _ _ _ _, hq.turn fun b hb => ⟨⟨by omega, ?_, by omega⟩, hF.block b hb.2 (by omega)⟩, hb.trans (hF.below hb.size (fun b e => by omega))⟩
  exact Nat.lt_of_lt_of_le hb.2 hF.size
theorem cut_endB {wr w8 : World} {sq : SL} {Rs : List PT} (hq : IsPq (fun k => wr.heap.size + 1 ≤ k ∧ k < w8.heap.size) w8 sq Rs) (hb : Below wr.heap.size wr w8) (o : Obj) :
    wr.heap.size ≤ w8.heap.size ∧ (w8.alloc o).heap[w8.heap.size]? = some o ∧ IsPq (fun b => wr.heap.size ≤ b ∧ b < (w8.alloc o).heap.size ∧ b ≠ w8.heap.size) (w8.alloc o) sq Rs ∧ Below wr.heap.size wr (w8.alloc o) :=
  ⟨hb.size, HK.blk_new _ _, hq.turn fun b hb => ⟨⟨by omega, by simp; omega, by omega⟩, Below.heap_alloc w8 _ b hb.2⟩, hb.alloc hb.size o⟩
/-- The cut's box takes the next cut. -/
theorem cut_next {wz wr wd : World} {C D : Nat} {cu nx : PT} {sq s2 : SL} {u0 u1 u2 u3 u4 u5 u6 u7 v0 v1 v2 v3 v4 v5 v6 v7 : Value} (hC : C = wz.heap.size) (hCr : C < wr.heap.size) (hbc : wd.heap[C]? = some (.cells #[u0, u1, u2, u3, u4, u5, u6, u7] 30 (0, 0))) (hB : Below C wz wr) (hBx : Below wr.heap.size wr wd)
    (hq : IsPq (fun b => wr.heap.size ≤ b ∧ b < wd.heap.size ∧ b ≠ D) wd s2 nx.subs) (ha : nx.arr s2 = #[v0, v1, v2, v3, v4, v5, v6, v7]) {W' : World} (hW : W' = (((((((wd.setCell ⟨C, 0, none⟩ v0).setCell ⟨C, 1, none⟩ v1).setCell ⟨C, 2, none⟩ v2).setCell ⟨C, 3, none⟩ v3).setCell ⟨C, 4, none⟩ v4).setCell ⟨C, 5, none⟩ v5).setCell ⟨C, 6, none⟩ v6).setCell ⟨C, 7, none⟩ v7) : CutR wz C nx W' := by
  subst hW
  have hF := set8_frm wd C v0 v1 v2 v3 v4 v5 v6 v7
  refine ⟨s2, by rw [ha]; exact set8 hbc _ _ _ _ _ _ _ _, hq.turn fun b hb => ⟨⟨Nat.lt_of_lt_of_le hb.2.1 hF.size, by omega⟩, hF.block b hb.2.1 (by omega)⟩, ?_⟩
  have h1 := hB.trans (hBx.mono (by omega))
  exact h1.trans (hF.below (by rw [hC]; exact h1.size) (fun b e => by omega))
/-- The cut stays. -/
theorem cut_stay {wz wr wd : World} {C : Nat} {cu : PT} {sq : SL} (hCr : C < wr.heap.size) (hbc : wd.heap[C]? = some (.cells (cu.arr sq) 30 (0, 0))) (hB : Below C wz wr) (hBx : Below wr.heap.size wr wd)
    (hq : IsPq (fun b => b < wr.heap.size ∧ b ≠ C) wr sq cu.subs) : CutR wz C cu wd :=
  ⟨sq, hbc, hq.turn fun b hb => ⟨⟨Nat.lt_of_lt_of_le hb.1 hBx.size, hb.2⟩, hBx.block b hb.1⟩, hB.trans (hBx.mono (by omega))⟩
/-- One step down in the walk of a place: the place takes a number, the box takes the premise. -/
theorem inner_end {wo wr W0 w7 W' : World} {Q gg cap k n1 : Nat} {v : SL} {pl : List Nat} {sq : SL} {s3 : List PT} {x0 x1 x2 x3 x4 x5 x6 x7 : Value} (hBW : Below Q wo wr) (hX : wr.heap[Q]? = some (.cells #[x0, x1, x2, x3, x4, x5, x6, x7] 30 (0, 0))) (hOWN : wr.ownsRow (Q + 1) 3 1 v.v pl.length (ints pl)) (hP : IsPs Q wr sq s3)
    (h0 : Below Q wr W0) (hz0 : W0.heap.size = wr.heap.size + 1) (hgrow : W0.grownBy w7 v.v.ownBlock) (hown7 : w7.ownsRow 0 3 1 (.slice (some ⟨gg, 0, none⟩) (pl.length + 1) cap) (pl.length + 1) (ints pl ++ [.int .i64 k])) (hat : v.v.ownBlock = some gg ∨ gg = W0.heap.size)
    (hT7 : w7.heap[Q]? = some (.cells #[x0, x1, x2, x3, x4, x5, x6, x7] 30 (0, 0))) (hz7 : ∀ b, b < wr.heap.size → b ≠ Q → v.v.ownBlock ≠ some b → w7.heap[b]? = wr.heap[b]?) (v0 v1 v2 v3 v4 v5 v6 v7 : Value) (hn : n1 = pl.length + 1)
    (hW : W' = (((((((w7.setCell ⟨Q, 0, none⟩ v0).setCell ⟨Q, 1, none⟩ v1).setCell ⟨Q, 2, none⟩ v2).setCell ⟨Q, 3, none⟩ v3).setCell ⟨Q, 4, none⟩ v4).setCell ⟨Q, 5, none⟩ v5).setCell ⟨Q, 6, none⟩ v6).setCell ⟨Q, 7, none⟩ v7) :
    IsPs Q W' sq s3 ∧ W'.heap[Q]? = some (.cells #[v0, v1, v2, v3, v4, v5, v6, v7] 30 (0, 0)) ∧ W'.ownsRow (Q + 1) 3 1 (.slice (some ⟨gg, 0, none⟩) n1 cap) n1 (ints (pl ++ [k])) ∧ Below Q wo W' := by
  subst hW hn
  have hQl : Q < wr.heap.size := HK.blk_lt hX
  have hF8 := set8_frm w7 Q v0 v1 v2 v3 v4 v5 v6 v7
  have hov : ∀ b, v.v.ownBlock = some b → Q + 1 ≤ b ∧ b < wr.heap.size := fun b hb => hOWN.lt b hb
  have hz8 : w7.heap.size ≥ wr.heap.size + 1 := by have := hgrow.size; omega
  have hpn := place_next (Q := Q) (k := k) (x := k) (v := v) hOWN (by omega) (by omega) hgrow hown7 hat
  have hb7 : Below Q wo w7 := hBW.trans (Below.grown h0 hgrow (by omega) (fun b e => by have := (hov b e).1; omega))
  rw [List.length_append, List.length_singleton] at hpn
  refine ⟨?_, set8 hT7 _ _ _ _ _ _ _ _, hF8.owns hpn (fun g e => by have := (hpn.lt g e).1; omega), hb7.trans (hF8.below (by omega) (fun b e => by omega))⟩
  refine (hP.pq.turn (T := fun b => b < Q) fun b hb => ⟨hb, ?_⟩).ps fun b hb => hb
  exact (hF8.block b (by omega) (by omega)).trans (hz7 b (by omega) (by omega) (fun e => by have := (hov b e).1; omega))
end Go.Proofs.Ytfebcpmbkljaoaa
namespace Go.Proofs.Ytfebcpmbkljaoaa
open Go.RowKit Go.HR
set_option linter.unusedVariables false
set_option linter.unusedSimpArgs false
set_option linter.unusedSectionVars false
/-- A step in box B, whose premises lie in a row of the call's own. -/
structure RowB (B base : Nat) (v : SL) (xs : List (PT × SL)) (wr : World) : Prop where
  box : wr.heap[B]? = some (.cells (boxR v.v) 30 (0, 0))
  row : wr.ownsRow base 30 8 v.v xs.length (flatP xs)
  subs : ∀ x ∈ xs, IsPq (fun b => base ≤ b ∧ b < wr.heap.size ∧ v.v.ownBlock ≠ some b) wr x.2 x.1.subs
  lt : B < base
  le : base ≤ wr.heap.size
theorem RowB.next {B base m1 gg cap : Nat} {v : SL} {xs : List (PT × SL)} {wr W8 W7 : World} (h : RowB B base v xs wr) (h8 : Below wr.heap.size wr W8) {x : PT × SL} (hx : IsPq (fun b => wr.heap.size ≤ b ∧ b < W8.heap.size) W8 x.2 x.1.subs)
    (hown : W7.ownsRow 0 30 8 (.slice (some ⟨gg, 0, none⟩) m1 cap) m1 (flatP xs ++ (x.1.arr x.2).toList)) (hm : m1 = xs.length + 1) (hgrow : W8.grownBy W7 v.v.ownBlock) (hat : v.v.ownBlock = some gg ∨ gg = W8.heap.size) :
    RowB B base ⟨some ⟨gg, 0, none⟩, m1, cap⟩ (xs ++ [x]) (W7.setCell ⟨B, 6, none⟩ (.slice (some ⟨gg, 0, none⟩) m1 cap)) ∧ ∀ Q, Q ≤ B → Below Q wr (W7.setCell ⟨B, 6, none⟩ (.slice (some ⟨gg, 0, none⟩) m1 cap)) := by
  subst hm
  have hlt := h.lt
  have hle := h.le
  have hz8 := h8.size
  have hz7 := hgrow.size
  have hv : ∀ b, v.v.ownBlock = some b → base ≤ b ∧ b < wr.heap.size := fun b hb => h.row.lt b hb
  have hlb := HK.blk_lt h.box
  have hgg : base ≤ gg := by
    rcases hat with e | e
    · exact (hv gg e).1
    · omega
  have hx7 := HK.blk_grown2 hgrow ((h8.block _ hlb).trans h.box) (fun e => by have := (hv _ e.symm).1; omega)
  have hF : HK.Frm (· = B) W7 (W7.setCell ⟨B, 6, none⟩ (.slice (some ⟨gg, 0, none⟩) (xs.length + 1) cap)) := HK.Frm.setCell (F := (· = B)) (p := ⟨B, 6, none⟩) (HK.Frm.refl _ W7) (.inl rfl) _
  have hzF := hF.size
  have hb7 : ∀ Q, Q ≤ B → Below Q wr W7 := fun Q hQ => (h8.mono (by omega)).grown hgrow (by omega) (fun b e => by have := (hv b e).1; omega)
  refine ⟨⟨HK.blk_set hx7 6 _, ?_, fun y hy => ?_, hlt, by omega⟩, fun Q hQ => (hb7 Q hQ).setCell (p := ⟨B, 6, none⟩) hQ _⟩
  · refine HK.owns_setCell ?_ (p := ⟨B, 6, none⟩) (by simp [Value.ownBlock, SL.v]; omega) _
    rw [flatP_on, List.length_append, List.length_singleton]
    exact own_next (W0 := W8) h.row (by omega) hown hat
  · rcases List.mem_append.1 hy with hy | hy
    · refine (h.subs y hy).turn fun b hb => ⟨⟨hb.1, by omega, ?_⟩, ?_⟩
      · simp only [SL.v, Value.ownBlock, ne_eq, Option.some.injEq]
        intro e
        rcases hat with e2 | e2
        · exact hb.2.2 (by rw [e2, e])
        · omega
      · exact (hF.block b (by omega) (by omega)).trans ((hgrow.block b (by omega) (fun e => hb.2.2 e.symm)).trans (h8.block b hb.2.1))
    · rw [List.mem_singleton.1 hy]
      refine hx.turn fun b hb => ⟨⟨by omega, by omega, ?_⟩, ?_⟩
      · simp only [SL.v, Value.ownBlock, ne_eq, Option.some.injEq]
        intro e
        rcases hat with e2 | e2
        · have := (hv _ e2).2; omega
        · omega
      · exact (hF.block b (by omega) (by omega)).trans (hgrow.block b hb.2 (fun e => by have := (hv b e.symm).2; omega))
/-- What the switch leaves in box B. -/
def badOf (k : Nat) (bd : PT) : Prop := measT bd = false ∧ plainT bd ∧ sizeT bd ≤ 1200 ∧ (k = 3 → measT (.node ruleR PO.nil [bd, bd]) = false)
def SwR (w5 : World) (B k : Nat) (wx : World) : Prop := ∃ (bd : PT) (sq : SL), badOf k bd ∧ wx.heap[B]? = some (.cells (bd.arr sq) 30 (0, 0)) ∧ IsPq (fun b => b < wx.heap.size ∧ b ≠ B) wx sq bd.subs ∧ Below w5.heap.size w5 wx
theorem RowB.done {w5 wr : World} {B base k : Nat} {v : SL} {xs : List (PT × SL)} (h : RowB B base v xs wr) (hb : badOf k (.node ruleR PO.nil (xs.map (·.1)))) (hB : Below w5.heap.size w5 wr) (hn : 0 < xs.length) : SwR w5 B k wr := by
  have hlt := h.lt
  refine ⟨_, v, hb, h.box, ?_, hB⟩
  obtain ⟨g, cap, hv, hg1, hg2⟩ := h.row.form hn
  obtain ⟨va, vn, vc⟩ := v
  simp only [SL.v, Value.slice.injEq] at hv
  obtain ⟨rfl, rfl, rfl⟩ := hv
  exact pq_row h.row ⟨hg2, by omega⟩ fun x hx => (h.subs x hx).turn fun b hb => ⟨⟨hb.2.1, by omega⟩, rfl⟩
theorem bad_of0 : badOf 0 holeP := ⟨bad_hole, ⟨rfl, rfl, rfl, plain_hole, trivial⟩, by simp [holeP, holeT, sizeT, sizeF], fun h => by cases h⟩
theorem bad_of1 : badOf 1 (stepK 9) := ⟨bad_nine, stepK_plain 9, by rw [stepK_size]; omega, fun h => by cases h⟩
theorem bad_of2 : badOf 2 (nestT 41) := ⟨bad_deep, plain_nest 41, by rw [nest_size]; omega, fun h => by cases h⟩
theorem bad_of3 : badOf 3 (bigT 8) := ⟨bad_big, plain_big 8, by rw [big_size]; omega, fun _ => bad_whole⟩
/-- A nest in box B. -/
def NestR (w5 : World) (B j : Nat) (wr : World) : Prop := ∃ sq : SL, wr.heap[B]? = some (.cells ((nestT j).arr sq) 30 (0, 0)) ∧ IsPq (fun b => b < wr.heap.size ∧ b ≠ B) wr sq (nestT j).subs ∧ Below w5.heap.size w5 wr
def fulS : List PT := fulT.subs
theorem ful_eq : fulT = .node ruleR PO.nil fulS := by
  have h1 : fulT.rule = ruleR := by decide +kernel
  have h2 : fulT.o = PO.nil := by
    have := built_plain (List.replicate 60 4)
    unfold fulT builtT mkT
    rfl
  unfold fulS
  generalize fulT = t at *
  obtain ⟨r, o, s⟩ := t
  simp only [PT.rule, PT.o] at h1 h2
  rw [h1, h2]; rfl
theorem built_full (w : World) (g c : Nat) (h : BytesAt w (some ⟨g, 0, none⟩) 60 (List.replicate 60 4)) : Calls Try.prog 10 #[.slice (some ⟨g, 0, none⟩) 60 c] w fun e w' => ∃ (ba : Option Addr) (bn bc : Nat), e = .returned (.agg (boxR (.slice ba bn bc))) ∧ IsPq (fun k => w.heap.size ≤ k ∧ k < w'.heap.size) w' ⟨ba, bn, bc⟩ fulS ∧ Below w.heap.size w w' := by
  refine (built_call w (some ⟨g, 0, none⟩) 60 c _ h).mono ?_
  rintro e w' ⟨⟨ba, bn, bc⟩, rfl, hq, hB⟩
  refine ⟨ba, bn, bc, ?_, hq, hB⟩
  show Ending.returned (.agg (fulT.arr _)) = _
  rw [ful_eq]; rfl
theorem fill_of {cur : Array Value} {xs : List (PT × SL)} (h : cur.toList = flatP xs) : RowFill cur xs := fun i x hx j v hv => by
  rw [← Array.getElem?_toList, h]; exact flatP_fill xs i x hx j v hv
theorem pq_one {S : Nat → Prop} {W : World} {R c : Nat} {q : PT} {s : SL} (h : W.heap[R]? = some (.cells (q.arr s) 30 (0, 0))) (hS : S R) (hs : IsPq S W s q.subs) : IsPq S W ⟨some ⟨R, 0, none⟩, 1, c⟩ [q] :=
  fill_pq (xs := [(q, s)]) h (fill_of (by simp [flatP])) rfl hS fun x hx => by rw [List.mem_singleton.1 hx]; exact hs
theorem pq_two {S : Nat → Prop} {W : World} {R c : Nat} {q p : PT} {s v : SL} (h : W.heap[R]? = some (.cells (q.arr s ++ p.arr v) 30 (0, 0))) (hS : S R) (hs : IsPq S W s q.subs) (hv : IsPq S W v p.subs) : IsPq S W ⟨some ⟨R, 0, none⟩, 2, c⟩ [q, p] :=
  fill_pq (xs := [(q, s), (p, v)]) h (fill_of (by simp [flatP])) rfl hS fun x hx => by
    rcases List.mem_cons.1 hx with rfl | hx
    · exact hs
    · rw [List.mem_singleton.1 hx]; exact hv
theorem step_box (W : World) (a : Option Addr) (n c : Nat) : Calls Try.prog 28 #[.slice a n c] W fun e w' => e = .returned (.agg (boxR (.slice a n c))) ∧ Below W.heap.size W w' := by
  refine (step_call W ⟨a, n, c⟩ []).mono ?_
  rintro e w' ⟨rfl, hB⟩
  exact ⟨rfl, hB⟩
/-- A new step without premises in box B. -/
theorem RowB.start {B : Nat} {W : World} {v : Value} (h : W.heap[B]? = some (.cells (boxR (.slice none 0 0)) 30 (0, 0))) : RowB B W.heap.size ⟨none, 0, 0⟩ [] W :=
  ⟨h, World.ownsRow_nil _ _ _ _, (fun x hx => by cases hx), HK.blk_lt h, Nat.le_refl _⟩
/-- A nest grows. -/
theorem NestR.next {w5 wr w8 W' : World} {B R m : Nat} {q : PT} {sq : SL} {z0 z1 z2 z3 z4 z5 z6 z7 : Value} (hw5 : w5.heap.size ≤ B) (hq : q = nestT m) (hBr : B < wr.heap.size) (hS : IsPq (fun b => b < wr.heap.size ∧ b ≠ B) wr sq q.subs) (hB : Below w5.heap.size w5 wr)
    (hB8 : Below wr.heap.size wr w8) (hR : w8.heap[R]? = some (.cells (q.arr sq) 30 (0, 0))) (hRr : wr.heap.size ≤ R) (hz : w8.heap[B]? = some (.cells #[z0, z1, z2, z3, z4, z5, z6, z7] 30 (0, 0)))
    (hW : W' = (((((((w8.setCell ⟨B, 0, none⟩ (.string ⟨#[114]⟩)).setCell ⟨B, 1, none⟩ (.int .u8 0)).setCell ⟨B, 2, none⟩ (.string ⟨#[]⟩)).setCell ⟨B, 3, none⟩ (.slice none 0 0)).setCell ⟨B, 4, none⟩ (.slice none 0 0)).setCell ⟨B, 5, none⟩ (.int .i64 0)).setCell ⟨B, 6, none⟩ (.slice (some ⟨R, 0, none⟩) 1 1)).setCell ⟨B, 7, none⟩ (.slice none 0 0)) : NestR w5 B (m + 1) W' := by
  subst hW
  have hF := set8_frm w8 B (.string ⟨#[114]⟩) (.int .u8 0) (.string ⟨#[]⟩) (.slice none 0 0) (.slice none 0 0) (.int .i64 0) (.slice (some ⟨R, 0, none⟩) 1 1) (.slice none 0 0)
  have hz8 := hF.size
  have h58 := below_then hB hB8
  have hR2 := HK.blk_lt hR
  have h5z := h58.size
  refine ⟨⟨some ⟨R, 0, none⟩, 1, 1⟩, set8 hz _ _ _ _ _ _ _ _, ?_, h58.trans (hF.below h58.size (fun b e => by omega))⟩
  show IsPq _ _ _ [nestT m]
  rw [← hq]
  refine pq_one ((hF.block R hR2 (by omega)).trans hR) ⟨by omega, by omega⟩ (hS.turn fun b hb => ⟨⟨?_, hb.2⟩, (hF.block b ?_ hb.2).trans (hB8.block b hb.1)⟩)
  · have := hB8.size; omega
  · have := hB8.size; omega
theorem NestR.done {w5 wr : World} {B : Nat} (h : NestR w5 B 41 wr) : SwR w5 B 2 wr := by
  obtain ⟨sq, h1, h2, h3⟩ := h
  exact ⟨nestT 41, sq, bad_of2, h1, h2, h3⟩
theorem own_below {W W' : World} {b e size n : Nat} {v : Value} {xs : List Value} (h : W.ownsRow b e size v n xs) (hB : Below W.heap.size W W') : W'.ownsRow b e size v n xs := by
  refine ⟨h.1, ?_⟩
  rcases h.2 with h0 | ⟨g, cap, cur, hv, hg, hh, r⟩
  · exact .inl h0
  · exact .inr ⟨g, cap, cur, hv, hg, (hB.block g (HK.blk_lt hh)).trans hh, r⟩
theorem duo_pq {wr wf wg wf2 wg2 ws : World} {o : Obj} {ba da : Option Addr} {bn bc dn dc : Nat} (h0 : Below wr.heap.size wr wf) (hq1 : IsPq (fun k => wf.heap.size ≤ k ∧ k < wg.heap.size) wg ⟨ba, bn, bc⟩ fulS) (h1 : Below wf.heap.size wf wg) (h2 : Below wg.heap.size wg wf2)
    (hq2 : IsPq (fun k => wf2.heap.size ≤ k ∧ k < wg2.heap.size) wg2 ⟨da, dn, dc⟩ fulS) (h3 : Below wf2.heap.size wf2 wg2) (hs : Below (wg2.alloc o).heap.size (wg2.alloc o) ws) (hR : ws.heap[wg2.heap.size]? = some (.cells (boxR (.slice ba bn bc) ++ boxR (.slice da dn dc)) 30 (0, 0))) :
    IsPq (fun b => wr.heap.size ≤ b ∧ b < ws.heap.size) ws ⟨some ⟨wg2.heap.size, 0, none⟩, 2, 2⟩ duoT.subs := by
  have z0 := h0.size
  have z1 := h1.size
  have z2 := h2.size
  have z3 := h3.size
  have z4 := hs.size
  have hb : Below wg2.heap.size wg2 ws := below_then (bl_al (Below.refl _ _)) hs
  have zb := hb.size
  have hRl := HK.blk_lt hR
  show IsPq _ _ _ [fulT, fulT]
  have hf : fulT.subs = fulS := rfl
  have hfa : ∀ s : SL, fulT.arr s = boxR s.v := fun s => by rw [ful_eq]; rfl
  refine pq_two (s := ⟨ba, bn, bc⟩) (v := ⟨da, dn, dc⟩) (by rw [hfa, hfa]; exact hR) ⟨by omega, hRl⟩ ?_ ?_
  · rw [hf]
    have hb1 : Below wg.heap.size wg ws := below_then (below_then h2 h3) hb
    exact hq1.turn fun b hb2 => ⟨⟨by omega, by omega⟩, hb1.block b hb2.2⟩
  · rw [hf]
    exact hq2.turn fun b hb2 => ⟨⟨by omega, by omega⟩, hb.block b hb2.2⟩
/-- The whole that is looked at, in box V. -/
def WhR (wa : World) (V : Nat) (wx : World) : Prop := ∃ (wh : PT) (sw : SL), measT wh = false ∧ plainT wh ∧ sizeT wh ≤ 3000 ∧ wx.heap[V]? = some (.cells (wh.arr sw) 30 (0, 0)) ∧ IsPs wx.heap.size wx sw wh.subs ∧ Below wa.heap.size wa wx
theorem run_app00 {P : Program} {w : World} {t ty e size bytes : Nat} (E : HK.ElemOk P t e size bytes) (ad : Addr) (n cap : Nat) (xa : Option Addr) (c : Nat) (hn : n ≤ cap) : (Builtin.append_ #[t, t] ty #[.slice (some ad) n cap, .slice xa 0 c]).run P w = .ok (.slice (some ad) n cap) w := by
  obtain ⟨ht, i, z, hi, h0, h2, h3, h4, h5⟩ := E
  cases xa <;> simp [Builtin.append_, run_underlying ht, sizeOf, typeInfo, hi, Builtin.lenOf, Builtin.firstCells, hn, storeCells, loadCells, loadCellsFrom]
theorem step_app00 {P : Program} {w : World} {ops : Array Oper} {o : Oper} {a : Act} {Q : Exit → Act → World → Prop} {K : Act → World → Prop} {R : Prop} (d : Nat) (hd : o.dst = some d) (hgd : o.guard = none) {t e size bytes : Nat} (E : HK.ElemOk P t e size bytes) (s x : Operand)
    (ho : o.op = .call { callee := .builtin .append, args := #[s, x], argTypes := #[t, t] }) (ad : Addr) (n cap : Nat) (xa : Option Addr) (c : Nat) (hn : n ≤ cap) (hs : a.eval s = .slice (some ad) n cap) (hx : a.eval x = .slice xa 0 c)
    (h : K (a.put o.dst (.slice (some ad) n cap)) w) : if Region.wanted o (yielded ops a.tmps) = true then Oper.wp P o a w K Q else R := by
  rw [if_pos (by simp [Region.wanted, hgd])]
  have hr := run_app00 (w := w) (ty := o.type) E ad n cap xa c hn
  unfold Oper.wp execOp
  simp only [ho, resolve, invoke, builtin, Sem.run_bind, Sem.run_pure, Result.andThen_ok, List.map_toArray, List.map_cons, List.map_nil, hs, hx, hr]
  exact h
theorem empty_row3 {W : World} {b : Nat} (h : W.heap[b]? = some (.cells #[] 3 (0, 0))) : W.ownsRow 0 3 1 (.slice (some ⟨b, 0, none⟩) 0 0) 0 [] :=
  ⟨rfl, .inr ⟨b, 0, #[], rfl, Nat.zero_le _, h, Nat.le_refl _, by decide, rfl, rfl⟩⟩
theorem isI_own {W : World} {b g n c : Nat} {xs : List Int} (h : W.ownsRow b 3 1 (.slice (some ⟨g, 0, none⟩) n c) n (xs.map fun i => .int .i64 i)) : IsI W ⟨some ⟨g, 0, none⟩, n, c⟩ xs := by
  have hl : n = xs.length := by have := h.1; simpa using this.symm
  refine ⟨hl, ?_, .inr ⟨g, 0, rfl, fun j x hx => ?_⟩⟩
  · rcases h.2 with ⟨h0, _⟩ | ⟨g', cap, cur, hv, _, _, hc, _⟩
    · cases h0
    · simp only [Value.slice.injEq] at hv
      obtain ⟨_, _, rfl⟩ := hv
      exact hc
  · rw [Nat.zero_add]
    have := h.cells (g := g) rfl j (.int .i64 x) (by rw [List.getElem?_map, hx]; rfl)
    rw [add_zero_at] at this
    exact this
/-- The place, and a number behind it. -/
theorem ints_more (pl : List Nat) (m : Int) : ints pl ++ [.int .i64 m] = (natI pl ++ [m]).map fun i => .int .i64 i := by simp [ints, natI, List.map_map]
theorem cell_set8 {W : World} {D P k : Nat} {v0 v1 v2 v3 v4 v5 v6 v7 : Value} (hP : P < W.heap.size) (h : P ≠ D) :
    ((((((((W.setCell ⟨D, 0, none⟩ v0).setCell ⟨D, 1, none⟩ v1).setCell ⟨D, 2, none⟩ v2).setCell ⟨D, 3, none⟩ v3).setCell ⟨D, 4, none⟩ v4).setCell ⟨D, 5, none⟩ v5).setCell ⟨D, 6, none⟩ v6).setCell ⟨D, 7, none⟩ v7).cell? ⟨P, k, none⟩ = W.cell? ⟨P, k, none⟩ :=
  World.cell?_of_block ((set8_frm W D v0 v1 v2 v3 v4 v5 v6 v7).block P hP h)
theorem below_set8 {w16 w8 W' : World} {D : Nat} {v0 v1 v2 v3 v4 v5 v6 v7 : Value} (hB : Below w16.heap.size w16 w8) (hD : w16.heap.size ≤ D)
    (hW : W' = (((((((w8.setCell ⟨D, 0, none⟩ v0).setCell ⟨D, 1, none⟩ v1).setCell ⟨D, 2, none⟩ v2).setCell ⟨D, 3, none⟩ v3).setCell ⟨D, 4, none⟩ v4).setCell ⟨D, 5, none⟩ v5).setCell ⟨D, 6, none⟩ v6).setCell ⟨D, 7, none⟩ v7) : Below w16.heap.size w16 W' := by
  subst hW
  exact hB.trans ((set8_frm w8 D v0 v1 v2 v3 v4 v5 v6 v7).below hB.size (fun b e => by omega))
theorem isI_new {W : World} {g : Nat} {m : Int} (h : W.heap[g]? = some (.cells #[.int .i64 m] 3 (0, 0))) : IsI W ⟨some ⟨g, 0, none⟩, 1, 1⟩ [m] :=
  ⟨rfl, Nat.le_refl _, .inr ⟨_, 0, rfl, fun j x hx => by
    cases j with
    | zero => simp at hx; subst hx; exact HK.blk_cell h 0
    | succ j => simp at hx⟩⟩
/-- append of a place onto an empty row. -/
theorem step_place {w : World} {ops : Array Oper} {o : Oper} {a : Act} {Q : Exit → Act → World → Prop} {K : Act → World → Prop} {R : Prop} (d : Nat) (hd : o.dst = some d) (hgd : o.guard = none) (s x : Operand)
    (ho : o.op = .call { callee := .builtin .append, args := #[s, x], argTypes := #[37, 37] }) (e : Nat) (hs : a.eval s = .slice (some ⟨e, 0, none⟩) 0 0) (he : w.heap[e]? = some (.cells #[] 3 (0, 0))) (pa : Option Addr) (pn pc : Nat) (pl : List Nat) (hx : a.eval x = .slice pa pn pc) (hpl : PlaceB w ⟨pa, pn, pc⟩ pl) (hl : pl.length ≤ 20000)
    (h : ∀ g cap w', w'.ownsRow 0 3 1 (.slice (some ⟨g, 0, none⟩) pn cap) pn (ints pl) → w.grownBy w' (some e) → (g = e ∨ g = w.heap.size) → K (a.put o.dst (.slice (some ⟨g, 0, none⟩) pn cap)) w') :
    if Region.wanted o (yielded ops a.tmps) = true then Oper.wp Try.prog o a w K Q else R := by
  have hpn : pn = pl.length := hpl.sn
  by_cases h0 : pl.length = 0
  · have hl0 : pl = [] := List.length_eq_zero_iff.1 h0
    subst hl0
    simp only [List.length_nil] at hpn
    subst hpn
    exact step_app00 d hd hgd elem3 s x ho ⟨e, 0, none⟩ 0 0 pa pc (Nat.le_refl _) hs hx (h e 0 w (empty_row3 he) ⟨rfl, rfl, rfl, Nat.le_refl _, fun _ _ _ => rfl⟩ (.inl rfl))
  · obtain ⟨g', cap', hv, _, _⟩ := hpl.form (by omega)
    simp only [SL.v, Value.slice.injEq] at hv
    obtain ⟨rfl, _, _⟩ := hv
    rw [if_pos (by simp [Region.wanted, hgd])]
    have hcells := World.ownsRow.cells (g := g') hpl rfl
    obtain ⟨ht, i, z, hi, q0, q2, q3, q4, q5⟩ := elem3
    refine wp_append_lies w s x 37 ho 0 3 i z 1 8 ht hi q0 q2 q3 q4 q5 (.slice (some ⟨e, 0, none⟩) 0 0) 0 [] hs (empty_row3 he) ⟨g', 0, none⟩ pn pc (ints pl) hx (by simp [ints, hpn]) hcells (fun u hu => by simp only [ints, List.mem_map] at hu; obtain ⟨k, _, rfl⟩ := hu; rfl) (by omega) (by simp only [maxLen]; omega) (by omega) (Nat.zero_le _) _ rfl ?_
    intro g cap w' h2 h3 h4 h5
    rw [Nat.zero_add, List.nil_append] at h2
    rw [Nat.zero_add]
    refine h g cap w' h2 h3 ?_
    rcases h4 with h4 | h4
    · simp only [Value.ownBlock, Option.some.injEq] at h4
      exact .inl h4.symm
    · exact .inr h4
theorem place_up {W W' : World} {s : SL} {pl : List Nat} (h : PlaceB W s pl) (hB : Below W.heap.size W W') : PlaceB W' s pl := h.same fun k hk => hB.block k (h.lt hk)
theorem grown_below {w W w' : World} {e : Nat} (hW : Below w.heap.size w W) (hg : W.grownBy w' (some e)) (he : w.heap.size ≤ e) : Below w.heap.size w w' :=
  hW.grown hg hW.size (fun k h => by simp only [Option.some.injEq] at h; omega)
end Go.Proofs.Ytfebcpmbkljaoaa
