/- MeasureWrong: relations of its loops. -/
import Derived.Test.YtfebcpmbkljaoaaWrA
import Derived.Test.YtfebcpmbkljaoaaWith
import Derived.Test.YtfebcpmbkljaoaaInts
import Derived.Deep.AppendLies
namespace Go.Proofs.Ytfebcpmbkljaoaa
open Go.RowKit Go.HR
set_option linter.unusedVariables false
set_option linter.unusedSimpArgs false
set_option linter.unusedSectionVars false
/-- The wrong places in memory. -/
def WrR (w3 : World) (t : PT) (ws : List (List Nat)) (v : Value) (wx : World) : Prop := ∃ (va : Option Addr) (vn vc : Nat) (xs : List (List Nat × SL)), v = .slice va vn vc ∧ xs.map (·.1) = ws.map (fun u => placeT t (u.take 12)) ∧ PRow wx w3.heap.size ⟨va, vn, vc⟩ xs ∧ Below w3.heap.size w3 wx ∧ (xs = [] → va = none ∧ vc = 0)
/-- The cut in memory: its box is C. -/
def CutR (wz : World) (C : Nat) (cu : PT) (wx : World) : Prop := ∃ sq : SL, wx.heap[C]? = some (.cells (cu.arr sq) 30 (0, 0)) ∧ IsPq (fun b => b < wx.heap.size ∧ b ≠ C) wx sq cu.subs ∧ Below C wz wx
theorem empty_row {W : World} {b : Nat} (h : W.heap[b]? = some (.cells #[] 37 (0, 0))) : W.ownsRow 0 37 1 (.slice (some ⟨b, 0, none⟩) 0 0) 0 [] :=
  ⟨rfl, .inr ⟨b, 0, #[], rfl, Nat.zero_le _, h, Nat.le_refl _, by decide, rfl, rfl⟩⟩
/-- The cells of a row of places. -/
theorem PRow.news {W : World} {b : Nat} {v : SL} {xs : List (List Nat × SL)} (h : PRow W b v xs) {ad : Addr} (ha : v.a = some ad) : ∀ (j : Nat) u, (xs.map fun x => x.2.v)[j]? = some u → W.cell? (ad.add j) = some u := fun j u hu => by
  rcases h.1.2 with ⟨h0, h1⟩ | ⟨g, cap, cur, hv, hg, hh, r⟩
  · rw [List.length_eq_zero_iff.1 h1] at hu; simp at hu
  · have hv2 := hv
    simp only [SL.v, Value.slice.injEq] at hv2
    obtain ⟨h2, _⟩ := hv2
    rw [ha] at h2; cases h2
    exact h.1.cells (g := g) (by rw [hv]; rfl) j u hu
theorem place_grown {W W1 : World} {b m : Nat} {v1 : Value} {ys : List Value} (hr : W.ownsRow b 37 1 v1 m ys) (hgrow : W.grownBy W1 v1.ownBlock) {s : SL} {pl : List Nat} (h : PlaceB W s pl) : PlaceB W1 s pl :=
  h.same fun k hk => hgrow.block k (h.lt hk) fun e => by
    rcases h.2 with ⟨h0, _⟩ | ⟨g', cap', cur', hv', hg', hh', r'⟩
    · rw [h0] at hk; cases hk
    · rw [hv'] at hk
      simp only [Value.ownBlock, Option.some.injEq] at hk
      subst hk
      rcases hr.2 with ⟨h0, _⟩ | ⟨g2, cap2, cur2, hv2, hg2, hh2, r2⟩
      · rw [h0] at e; cases e
      · rw [hv2] at e
        simp only [Value.ownBlock, Option.some.injEq] at e
        subst e
        rw [hh'] at hh2; simp at hh2
/-- A row of places, and the same once more behind it. -/
theorem PRow.twice {W1 W2 : World} {g1 g2 c1 c2 n1 N2 : Nat} {xs : List (List Nat × SL)} (hp : ∀ x ∈ xs, PlaceB W1 x.2 x.1)
    (ho1 : W1.ownsRow 0 37 1 (.slice (some ⟨g1, 0, none⟩) n1 c1) n1 (xs.map fun x => x.2.v)) (hg2 : W1.grownBy W2 (some g1))
    (ho2 : W2.ownsRow 0 37 1 (.slice (some ⟨g2, 0, none⟩) N2 c2) N2 ((xs.map fun x => x.2.v) ++ (xs.map fun x => x.2.v))) (hN : xs.length + xs.length = N2) : PRow W2 0 ⟨some ⟨g2, 0, none⟩, N2, c2⟩ (xs ++ xs) := by
  subst hN
  refine ⟨?_, fun x hx => ?_⟩
  · simp only [SL.v, List.length_append, List.map_append]; exact ho2
  · have hx : x ∈ xs := by rcases List.mem_append.1 hx with hx | hx <;> exact hx
    exact place_grown ho1 hg2 (hp x hx)
theorem goalsL_pl {t : PT} {ws : List (List Int)} : ∀ d ∈ goalsL t ws, d.pl.length ≤ 40 := fun d h => by
  unfold goalsL at h
  split at h
  · rename_i hc
    have hm : measT t = true := by
      unfold codeL at hc; split at hc
      · assumption
      · cases hc
    unfold measT at hm
    exact okD_pl (List.all_eq_true.1 (Bool.and_eq_true_iff.1 hm).2 d ((goals_sub _ _ _ _).subset h))
  · cases h
theorem gs_at {gs : List StepV} {G : List StepD} (h : gs.map (·.d) = G) {i : Nat} {d : StepD} (hd : G[i]? = some d) : ∃ x, gs[i]? = some x ∧ x.d = d := by
  subst h
  rw [List.getElem?_map, Option.map_eq_some_iff] at hd
  exact hd
theorem view_at {G G2 : List StepD} (h : G2.map viewD = G.map viewD) {i : Nat} {d : StepD} (hd : G[i]? = some d) : ∃ d2, G2[i]? = some d2 ∧ d2.pl = d.pl ∧ d2.wt = d.wt := by
  have h1 := congrArg (fun l => l[i]?) h
  simp only [List.getElem?_map, hd, Option.map_some] at h1
  obtain ⟨d2, h2, h3⟩ := Option.map_eq_some_iff.1 h1
  simp only [viewD, Prod.mk.injEq] at h3
  exact ⟨d2, h2, h3.1, h3.2⟩
theorem ints_quiet {W : World} {q : Nat} {s t : SL} {xs : List Int} (hs : IsI W s xs) (ht : IsI W t xs) (hl : xs.length ≤ 20000) :
    Calls Try.prog 26 #[s.v, t.v] (W.drewN q) fun e w'' => e = .returned (.bool true) ∧ ∃ m, w'' = W.drewN m :=
  (ints_call (W.drewN q) s t xs xs (hs.below ⟨rfl, rfl, rfl, Nat.le_refl _, fun _ _ => rfl⟩) (ht.below ⟨rfl, rfl, rfl, Nat.le_refl _, fun _ _ => rfl⟩) hl hl).mono fun _ _ ⟨he, d, hd⟩ => ⟨by rw [he]; simp, q + d, by rw [hd]; simp⟩
theorem step_appm {P : Program} {w : World} {ops : Array Oper} {o : Oper} {a : Act} {Q : Exit → Act → World → Prop} {K : Act → World → Prop} {R : Prop} (d : Nat) (hd : o.dst = some d) (hgd : o.guard = none) {t e size bytes : Nat} (E : HK.ElemOk P t e size bytes) (s x : Operand)
    (ho : o.op = .call { callee := .builtin .append, args := #[s, x], argTypes := #[t, t] }) (v : Value) (n : Nat) (xs : List Value) (hs : a.eval s = v) (hown : w.ownsRow 0 e size v n xs)
    (ad : Addr) (m c : Nat) (news : List Value) (hx : a.eval x = .slice (some ad) m c) (hl : news.length = m * size) (hnews : ∀ (j : Nat) u, news[j]? = some u → w.cell? (ad.add j) = some u) (h1 : ∀ u ∈ news, u.oneCell' = true)
    (nm : Nat) (hnm : n + m = nm) (hm : 0 < m) (h63 : n + m ≤ maxLen) (hbytes : (n + m) * bytes ≤ 140737488355328)
    (h : ∀ g cap w', w'.ownsRow 0 e size (.slice (some ⟨g, 0, none⟩) nm cap) nm (xs ++ news) → w.grownBy w' v.ownBlock → (v.ownBlock = some g ∨ g = w.heap.size) → g < w'.heap.size → K (a.put o.dst (.slice (some ⟨g, 0, none⟩) nm cap)) w') :
    if Region.wanted o (yielded ops a.tmps) = true then Oper.wp P o a w K Q else R := by
  subst hnm
  obtain ⟨ht, i, z, hi, h0, h2, h3, h4, h5⟩ := E
  rw [if_pos (by simp [Region.wanted, hgd])]
  exact wp_append_lies w s x t ho 0 e i z size bytes ht hi h0 h2 h3 h4 h5 v n xs hs hown ad m c news hx hl hnews h1 hm h63 hbytes (Nat.zero_le _) _ rfl h
/-- append of nothing. -/
theorem run_app0 {P : Program} {w : World} {t ty e size bytes : Nat} (E : HK.ElemOk P t e size bytes) (ad : Addr) (n cap : Nat) (hn : n ≤ cap) : (Builtin.append_ #[t, t] ty #[.slice (some ad) n cap, .slice none 0 0]).run P w = .ok (.slice (some ad) n cap) w := by
  obtain ⟨ht, i, z, hi, h0, h2, h3, h4, h5⟩ := E
  simp [Builtin.append_, run_underlying ht, sizeOf, typeInfo, hi, Builtin.lenOf, Builtin.firstCells, hn, storeCells]
theorem step_app0 {P : Program} {w : World} {ops : Array Oper} {o : Oper} {a : Act} {Q : Exit → Act → World → Prop} {K : Act → World → Prop} {R : Prop} (d : Nat) (hd : o.dst = some d) (hgd : o.guard = none) {t e size bytes : Nat} (E : HK.ElemOk P t e size bytes) (s x : Operand)
    (ho : o.op = .call { callee := .builtin .append, args := #[s, x], argTypes := #[t, t] }) (ad : Addr) (n cap : Nat) (hn : n ≤ cap) (hs : a.eval s = .slice (some ad) n cap) (hx : a.eval x = .slice none 0 0)
    (h : K (a.put o.dst (.slice (some ad) n cap)) w) : if Region.wanted o (yielded ops a.tmps) = true then Oper.wp P o a w K Q else R := by
  rw [if_pos (by simp [Region.wanted, hgd])]
  have hr := run_app0 (w := w) (ty := o.type) E ad n cap hn
  unfold Oper.wp execOp
  simp only [ho, resolve, invoke, builtin, Sem.run_bind, Sem.run_pure, Result.andThen_ok, List.map_toArray, List.map_cons, List.map_nil, hs, hx, hr]
  exact h
theorem cut_endA {wr w8 : World} {D : Nat} {z0 z1 z2 z3 z4 z5 z6 z7 : Value} {sq : SL} {Rs : List PT} (hz : w8.heap[D]? = some (.cells #[z0, z1, z2, z3, z4, z5, z6, z7] 30 (0, 0))) (hD : wr.heap.size ≤ D) (hD2 : D < wr.heap.size + 2) (hq : IsPq (fun k => wr.heap.size + 2 ≤ k ∧ k < w8.heap.size) w8 sq Rs) (hb : Below wr.heap.size wr w8) (v0 v1 v2 v3 v4 v5 v6 v7 : Value) {W' : World}
    (hW : W' = (((((((w8.setCell ⟨D, 0, none⟩ v0).setCell ⟨D, 1, none⟩ v1).setCell ⟨D, 2, none⟩ v2).setCell ⟨D, 3, none⟩ v3).setCell ⟨D, 4, none⟩ v4).setCell ⟨D, 5, none⟩ v5).setCell ⟨D, 6, none⟩ v6).setCell ⟨D, 7, none⟩ v7) :
    wr.heap.size ≤ D ∧ W'.heap[D]? = some (.cells #[v0, v1, v2, v3, v4, v5, v6, v7] 30 (0, 0)) ∧ IsPq (fun b => wr.heap.size ≤ b ∧ b < W'.heap.size ∧ b ≠ D) W' sq Rs ∧ Below wr.heap.size wr W' := by
  subst hW
  have hF := set8_frm w8 D v0 v1 v2 v3 v4 v5 v6 v7
  refine ⟨hD, set8 hz _ _ _ _ _ _ _ _, hq.turn fun b hb => ⟨⟨by omega, ?_, by omega⟩, hF.block b hb.2 (by omega)⟩, hb.trans (hF.below hb.size (fun b e => by omega))⟩
  exact Nat.lt_of_lt_of_le hb.2 hF.size
theorem cut_endB {wr w8 : World} {sq : SL} {Rs : List PT} (hq : IsPq (fun k => wr.heap.size + 1 ≤ k ∧ k < w8.heap.size) w8 sq Rs) (hb : Below wr.heap.size wr w8) (o : Obj) :
    wr.heap.size ≤ w8.heap.size ∧ (w8.alloc o).heap[w8.heap.size]? = some o ∧ IsPq (fun b => wr.heap.size ≤ b ∧ b < (w8.alloc o).heap.size ∧ b ≠ w8.heap.size) (w8.alloc o) sq Rs ∧ Below wr.heap.size wr (w8.alloc o) :=
  ⟨hb.size, HK.blk_new _ _, hq.turn fun b hb => ⟨⟨by omega, by simp; omega, by omega⟩, Below.heap_alloc w8 _ b hb.2⟩, hb.alloc hb.size o⟩
/-- The cut's box takes the next cut. -/
theorem cut_next {wz wr wd : World} {C D : Nat} {cu nx : PT} {sq s2 : SL} {u0 u1 u2 u3 u4 u5 u6 u7 v0 v1 v2 v3 v4 v5 v6 v7 : Value} (hC : C = wz.heap.size) (hCr : C < wr.heap.size) (hbc : wd.heap[C]? = some (.cells #[u0, u1, u2, u3, u4, u5, u6, u7] 30 (0, 0))) (hB : Below C wz wr) (hBx : Below wr.heap.size wr wd)
    (hq : IsPq (fun b => wr.heap.size ≤ b ∧ b < wd.heap.size ∧ b ≠ D) wd s2 nx.subs) (ha : nx.arr s2 = #[v0, v1, v2, v3, v4, v5, v6, v7]) {W' : World} (hW : W' = (((((((wd.setCell ⟨C, 0, none⟩ v0).setCell ⟨C, 1, none⟩ v1).setCell ⟨C, 2, none⟩ v2).setCell ⟨C, 3, none⟩ v3).setCell ⟨C, 4, none⟩ v4).setCell ⟨C, 5, none⟩ v5).setCell ⟨C, 6, none⟩ v6).setCell ⟨C, 7, none⟩ v7) : CutR wz C nx W' := by
  subst hW
  have hF := set8_frm wd C v0 v1 v2 v3 v4 v5 v6 v7
  refine ⟨s2, by rw [ha]; exact set8 hbc _ _ _ _ _ _ _ _, hq.turn fun b hb => ⟨⟨Nat.lt_of_lt_of_le hb.2.1 hF.size, by omega⟩, hF.block b hb.2.1 (by omega)⟩, ?_⟩
  have h1 := hB.trans (hBx.mono (by omega))
  exact h1.trans (hF.below (by rw [hC]; exact h1.size) (fun b e => by omega))
/-- The cut stays. -/
theorem cut_stay {wz wr wd : World} {C : Nat} {cu : PT} {sq : SL} (hCr : C < wr.heap.size) (hbc : wd.heap[C]? = some (.cells (cu.arr sq) 30 (0, 0))) (hB : Below C wz wr) (hBx : Below wr.heap.size wr wd)
    (hq : IsPq (fun b => b < wr.heap.size ∧ b ≠ C) wr sq cu.subs) : CutR wz C cu wd :=
  ⟨sq, hbc, hq.turn fun b hb => ⟨⟨Nat.lt_of_lt_of_le hb.1 hBx.size, hb.2⟩, hBx.block b hb.1⟩, hB.trans (hBx.mono (by omega))⟩
/-- One step down in the walk of a place: the place takes a number, the box takes the premise. -/
theorem inner_end {wo wr W0 w7 W' : World} {Q gg cap k n1 : Nat} {v : SL} {pl : List Nat} {sq : SL} {s3 : List PT} {x0 x1 x2 x3 x4 x5 x6 x7 : Value} (hBW : Below Q wo wr) (hX : wr.heap[Q]? = some (.cells #[x0, x1, x2, x3, x4, x5, x6, x7] 30 (0, 0))) (hOWN : wr.ownsRow (Q + 1) 3 1 v.v pl.length (ints pl)) (hP : IsPs Q wr sq s3)
    (h0 : Below Q wr W0) (hz0 : W0.heap.size = wr.heap.size + 1) (hgrow : W0.grownBy w7 v.v.ownBlock) (hown7 : w7.ownsRow 0 3 1 (.slice (some ⟨gg, 0, none⟩) (pl.length + 1) cap) (pl.length + 1) (ints pl ++ [.int .i64 k])) (hat : v.v.ownBlock = some gg ∨ gg = W0.heap.size)
    (hT7 : w7.heap[Q]? = some (.cells #[x0, x1, x2, x3, x4, x5, x6, x7] 30 (0, 0))) (hz7 : ∀ b, b < wr.heap.size → b ≠ Q → v.v.ownBlock ≠ some b → w7.heap[b]? = wr.heap[b]?) (v0 v1 v2 v3 v4 v5 v6 v7 : Value) (hn : n1 = pl.length + 1)
    (hW : W' = (((((((w7.setCell ⟨Q, 0, none⟩ v0).setCell ⟨Q, 1, none⟩ v1).setCell ⟨Q, 2, none⟩ v2).setCell ⟨Q, 3, none⟩ v3).setCell ⟨Q, 4, none⟩ v4).setCell ⟨Q, 5, none⟩ v5).setCell ⟨Q, 6, none⟩ v6).setCell ⟨Q, 7, none⟩ v7) :
    IsPs Q W' sq s3 ∧ W'.heap[Q]? = some (.cells #[v0, v1, v2, v3, v4, v5, v6, v7] 30 (0, 0)) ∧ W'.ownsRow (Q + 1) 3 1 (.slice (some ⟨gg, 0, none⟩) n1 cap) n1 (ints (pl ++ [k])) ∧ Below Q wo W' := by
  subst hW hn
  have hQl : Q < wr.heap.size := HK.blk_lt hX
  have hF8 := set8_frm w7 Q v0 v1 v2 v3 v4 v5 v6 v7
  have hov : ∀ b, v.v.ownBlock = some b → Q + 1 ≤ b ∧ b < wr.heap.size := fun b hb => hOWN.lt b hb
  have hz8 : w7.heap.size ≥ wr.heap.size + 1 := by have := hgrow.size; omega
  have hpn := place_next (Q := Q) (k := k) (x := k) (v := v) hOWN (by omega) (by omega) hgrow hown7 hat
  have hb7 : Below Q wo w7 := hBW.trans (Below.grown h0 hgrow (by omega) (fun b e => by have := (hov b e).1; omega))
  rw [List.length_append, List.length_singleton] at hpn
  refine ⟨?_, set8 hT7 _ _ _ _ _ _ _ _, hF8.owns hpn (fun g e => by have := (hpn.lt g e).1; omega), hb7.trans (hF8.below (by omega) (fun b e => by omega))⟩
  refine (hP.pq.turn (T := fun b => b < Q) fun b hb => ⟨hb, ?_⟩).ps fun b hb => hb
  exact (hF8.block b (by omega) (by omega)).trans (hz7 b (by omega) (by omega) (fun e => by have := (hov b e).1; omega))
end Go.Proofs.Ytfebcpmbkljaoaa
