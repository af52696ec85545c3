/- The reference's to (57), Undo, Redo, Go. -/
import Derived.Test.YthneinepdbkgeaaRefb
import Derived.Laws.ResultCell
import Derived.Deep.RegionWith
namespace Go.Proofs.Ythneinepdbkgeaa
open Go.RowKit Go.HK
set_option linter.unusedVariables false
set_option linter.unusedSimpArgs false
set_option linter.unusedSectionVars false
def stF (es : List Ent) (n : Nat) : ByteArray := ((es[n]?).map (·.state)).getD ⟨#[]⟩
theorem results_cell3 {P : Program} {fn : Func} {p u v : Tmp} {ty : TypeId} (h : fn.results = #[.cell p ty, .tmp u, .tmp v]) (tmps : Array Value) (w : World) (g : Nat) (t : TypeId) (cs : Array Value) (fr : Nat × Nat) (d : TypeDesc) (b c : Value)
    (hp : tmps.getD p undef = .pointer (some ⟨g, 0, none⟩)) (hb : tmps.getD u undef = b) (hc : tmps.getD v undef = c) (hg : w.heap[g]? = some (.cells cs t fr))
    (hu : P.underlying ty = some d) (hd : (match d with | .struct _ | .array _ _ => true | _ => false) = true) (hi : (P.info? ty).map (·.size) = some cs.size) :
    (results fn tmps).run P w = .ok (.tuple #[.agg cs, b, c]) w := by
  have hl := run_loadVar_row w g t ty cs fr d hg hu hd hi
  have e : (results fn tmps).run P w = ((asAddr (tmps.getD p undef)).run P w).andThen fun a w₁ => ((loadVar ty a).run P w₁).andThen fun x w₂ => .ok (.tuple #[x, tmps.getD u undef, tmps.getD v undef]) w₂ := by
    simp only [results, h]
    simp [Sem.run_bind, Result.andThen]
  rw [e, hp, hb, hc]
  simp [asAddr, hl, Result.andThen]
theorem results_cell2 {P : Program} {fn : Func} {p u : Tmp} {ty : TypeId} (h : fn.results = #[.cell p ty, .tmp u]) (tmps : Array Value) (w : World) (g : Nat) (t : TypeId) (cs : Array Value) (fr : Nat × Nat) (d : TypeDesc) (b : Value)
    (hp : tmps.getD p undef = .pointer (some ⟨g, 0, none⟩)) (hb : tmps.getD u undef = b) (hg : w.heap[g]? = some (.cells cs t fr))
    (hu : P.underlying ty = some d) (hd : (match d with | .struct _ | .array _ _ => true | _ => false) = true) (hi : (P.info? ty).map (·.size) = some cs.size) :
    (results fn tmps).run P w = .ok (.tuple #[.agg cs, b]) w := by
  rw [results_cell_tmp h, hp, hb]
  simp [asAddr, run_loadVar_row w g t ty cs fr d hg hu hd hi, Result.andThen]
/-- What to says: the present entry, the state, the error's number. -/
def toR (es : List Ent) (nw n : Int) : Int × ByteArray × Int := if 0 ≤ n ∧ n < es.length then (n, stF es n.toNat, 0) else (nw, ⟨#[]⟩, 6)
def RetTo (w : World) (ge nl ce : Nat) (ga : Option Addr) (gn gc : Nat) (r : Int × ByteArray × Int) (e : Ending) (w' : World) : Prop :=
  e = .returned (.tuple #[.agg #[.slice (some ⟨ge, 0, none⟩) nl ce, .int .i64 r.1, .slice ga gn gc], .string r.2.1, .int .i64 r.2.2]) ∧ Below w.heap.size w w'
theorem set3 {W : World} {R t : Nat} {z0 z1 z2 : Value} (h : W.heap[R]? = some (.cells #[z0, z1, z2] t (0, 0))) (v0 v1 v2 : Value) : (((W.setCell ⟨R, 0, none⟩ v0).setCell ⟨R, 1, none⟩ v1).setCell ⟨R, 2, none⟩ v2).heap[R]? = some (.cells #[v0, v1, v2] t (0, 0)) := by
  have h0 : (W.setCell ⟨R, 0, none⟩ v0).heap[R]? = some (.cells #[v0, z1, z2] t (0, 0)) := HK.blk_set h 0 _
  have h1 : ((W.setCell ⟨R, 0, none⟩ v0).setCell ⟨R, 1, none⟩ v1).heap[R]? = some (.cells #[v0, v1, z2] t (0, 0)) := HK.blk_set h0 1 _
  exact HK.blk_set h1 2 _
theorem set3_frm (W : World) (R : Nat) (v0 v1 v2 : Value) : Frm (· = R) W (((W.setCell ⟨R, 0, none⟩ v0).setCell ⟨R, 1, none⟩ v1).setCell ⟨R, 2, none⟩ v2) :=
  Frm.setCell (F := (· = R)) (p := ⟨R, 2, none⟩) (Frm.setCell (F := (· = R)) (p := ⟨R, 1, none⟩) (Frm.setCell (F := (· = R)) (p := ⟨R, 0, none⟩) (Frm.refl (· = R) W) (.inl rfl) v0) (.inl rfl) v1) (.inl rfl) v2
theorem blk_new19 (w : World) (a b : Obj) : ((w.alloc a).alloc b).heap[w.heap.size + 1]? = some b := by
  have := HK.blk_new (w.alloc a) b
  rwa [World.size_alloc] at this
set_option maxRecDepth 100000 in
set_option maxHeartbeats 4000000 in
theorem rto_any (w : World) (ge nl ce : Nat) (nw : Int) (ga : Option Addr) (gn gc : Nat) (es : List Ent) (n : Int) (hn : nl = es.length) (he : EntsAt w ge es) : Calls Try.prog 57 #[.agg #[.slice (some ⟨ge, 0, none⟩) nl ce, .int .i64 nw, .slice ga gn gc], .int .i64 n] w (RetTo w ge nl ce ga gn gc (toR es nw n)) := by
  have hh := fun (W : World) => rhas_any W (some ⟨ge, 0, none⟩) nl ce nw ga gn gc n
  unfold RetBo9 at hh
  obtain ⟨G, hG⟩ : ∃ G, G = w.heap.size := ⟨_, rfl⟩
  obtain ⟨R, hR⟩ : ∃ R, R = w.heap.size + 1 := ⟨_, rfl⟩
  obtain ⟨w2, hw2⟩ : ∃ w2, w2 = (w.alloc (.cells #[.slice (some ⟨ge, 0, none⟩) nl ce, .int .i64 nw, .slice ga gn gc] 63)).alloc (.cells #[.slice none 0 0, .int .i64 0, .slice none 0 0] 63) := ⟨_, rfl⟩
  have hB2 : Below w.heap.size w w2 := by rw [hw2]; exact ((Below.refl _ w).alloc (Nat.le_refl _) _).alloc (by simp) _
  have hX2 : w2.heap[G]? = some (.cells #[.slice (some ⟨ge, 0, none⟩) nl ce, .int .i64 nw, .slice ga gn gc] 63 (0, 0)) := by rw [hw2, hG]; exact HK.blk_alloc (HK.blk_new _ _) _
  have hR2 : w2.heap[R]? = some (.cells #[.slice none 0 0, .int .i64 0, .slice none 0 0] 63 (0, 0)) := by rw [hw2, hR]; exact blk_new19 _ _ _
  have hGR : G ≠ R := by omega
  have hRG : R ≠ G := by omega
  have hh2 := hh w2
  have he2 := he.below hB2 (Nat.le_refl _)
  obtain ⟨b, hb⟩ : ∃ b, b = decide (0 ≤ n ∧ n < (nl : Int)) := ⟨_, rfl⟩
  rw [← hb] at hh2
  obtain ⟨r, hr⟩ : ∃ r, r = toR es nw n := ⟨_, rfl⟩
  rw [← hr]
  have x0 : w2.cell? ⟨G, 0, none⟩ = some (.slice (some ⟨ge, 0, none⟩) nl ce) := HK.blk_cell hX2 0
  have x1 : w2.cell? ⟨G, 1, none⟩ = some (.int .i64 nw) := HK.blk_cell hX2 1
  have x2 : w2.cell? ⟨G, 2, none⟩ = some (.slice ga gn gc) := HK.blk_cell hX2 2
  have HX2 := Lib.hid hX2
  have HR2 := Lib.hid hR2
  have HH2 := Lib.hid hh2
  have HE2 := Lib.hid he2
  have HB2 := Lib.hid hB2
  have HW2 := Lib.hid hw2
  have HG := Lib.hid hG
  have HR := Lib.hid hR
  have HN := Lib.hid hn
  have HGE := Lib.hid he.lt
  have HBD := Lib.hid hb
  have HRV := Lib.hid hr
  clear hh hX2 hR2 hh2 he2 hB2 hw2 hG hR hn hb hr he
  go_enter Try.func57, Try.ntmps57
  go_upto_region 1 with (fail)
  rw [← HW2.out, ← HR.out, ← HG.out]
  go_upto_if 10 with (go_at_call 50; refine HH2.out.mono ?_; rintro e w3 ⟨rfl, hB3⟩; have HB3 := Lib.hid hB3; clear hB3)
  have hX3 := blk_up9 HB3.out HX2.out
  have hR3 := blk_up9 HB3.out HR2.out
  have y0 : w3.cell? ⟨G, 0, none⟩ = some (.slice (some ⟨ge, 0, none⟩) nl ce) := HK.blk_cell hX3 0
  have y1 : w3.cell? ⟨G, 1, none⟩ = some (.int .i64 nw) := HK.blk_cell hX3 1
  have y2 : w3.cell? ⟨G, 2, none⟩ = some (.slice ga gn gc) := HK.blk_cell hX3 2
  have r0 := HK.blk_cell hR3 0
  have r1 := HK.blk_cell hR3 1
  have r2 := HK.blk_cell hR3 2
  have rf := fun i => HK.blk_frozen hR3 i
  have yf := fun i => HK.blk_frozen hX3 i
  have HX3 := Lib.hid hX3
  have HR3 := Lib.hid hR3
  clear hX3 hR3 x0 x1 x2
  cases b with
  | true =>
    have hnn : 0 ≤ n ∧ n < nl := of_decide_eq_true HBD.out.symm
    have hrv : r = (n, stF es n.toNat, 0) := by rw [HRV.out]; unfold toR; rw [if_pos (by rw [← HN.out]; exact hnn)]
    obtain ⟨k, rfl⟩ : ∃ k : Nat, n = (k : Int) := ⟨n.toNat, by omega⟩
    obtain ⟨xk, hxk⟩ : ∃ xk, es[k]? = some xk := ⟨_, List.getElem?_eq_getElem (by rw [← HN.out]; omega)⟩
    have hst : stF es (k : Int).toNat = xk.state := by rw [Int.toNat_natCast, stF, hxk]; rfl
    rw [hst] at hrv
    have c3 := ((HE2.out.below HB3.out (Nat.le_refl _)).c k xk hxk).2.2.2
    obtain ⟨st, hst2⟩ : ∃ st, st = xk.state := ⟨_, rfl⟩
    rw [← hst2] at hrv c3
    have HRV2 := Lib.hid hrv
    have z0 : (0 : Int) ≤ (k : Int) := by omega
    have z1 : (k : Int) < (nl : Int) := by omega
    have hgel : ge < w2.heap.size := HE2.out.lt
    clear hnn hrv hxk hst hst2
    go_upto_region 4 with (fail)
    obtain ⟨w4, hw4⟩ : ∃ w4, w4 = w3.setCell ⟨G, 1, none⟩ (.int .i64 (k : Int)) := ⟨_, rfl⟩
    rw [← hw4]
    have hF4 : Frm (· = G) w3 w4 := by rw [hw4]; exact Frm.setCell (F := (· = G)) (Frm.refl _ w3) (.inl rfl) _
    have hX4 : w4.heap[G]? = some (.cells #[.slice (some ⟨ge, 0, none⟩) nl ce, .int .i64 (k : Int), .slice ga gn gc] 63 (0, 0)) := by rw [hw4]; exact HK.blk_set HX3.out 1 _
    have hR4 := hF4.heap HR3.out hRG
    have u0 := HK.blk_cell hX4 0
    have u1 := HK.blk_cell hX4 1
    have u2 := HK.blk_cell hX4 2
    have q0 := HK.blk_cell hR4 0
    have q1 := HK.blk_cell hR4 1
    have q2 := HK.blk_cell hR4 2
    have qf := fun i => HK.blk_frozen hR4 i
    have d3 : w4.cell? ⟨ge, k * 4 + 3, none⟩ = some (.string st) := by
      have : (w4.cell? ⟨ge, k * 4 + 3, none⟩) = w3.cell? ⟨ge, k * 4 + 3, none⟩ := World.cell?_of_block (a := ⟨ge, k * 4 + 3, none⟩) (hF4.block ge (by have := HB3.out.size; omega) (by have h1 := HG.out; have h2 := HGE.out; omega))
      rw [this]; exact c3
    have hgr : ge ≠ R := by have h1 := HR.out; have h2 := HGE.out; omega
    have hrg : R ≠ ge := fun e => hgr e.symm
    have HX4 := Lib.hid hX4
    have HR4 := Lib.hid hR4
    have HF4 := Lib.hid hF4
    clear hX4 hR4 hF4 hw4 y0 y1 y2 r0 r1 r2 rf yf c3
    go_cut [5, 6] from 14 to 20 (fun a b wx => a = .string st ∧ b = .int .i64 0 ∧ wx.heap[R]? = some (.cells #[.slice (some ⟨ge, 0, none⟩) nl ce, .int .i64 (k : Int), .slice ga gn gc] 63 (0, 0)) ∧ Frm (· = R) w4 wx)
    case first =>
      go_region_with (fail)
      all_goals (
        simp only [Exit.inBlock, Exit.then]
        go_simp
        go_step
        go_meet)
      all_goals exact ⟨rfl, rfl, set3 (W := w4) HR4.out _ _ _, ⟨rfl, rfl, rfl, (set3_frm w4 R _ _ _).size, (set3_frm w4 R (.slice (some ⟨ge, 0, none⟩) nl ce) (.int .i64 (k : Int)) (.slice ga gn gc)).block⟩⟩
    case rest =>
      obtain ⟨rfl, rfl, hrc, hfc⟩ := hcut
      have HRC := Lib.hid hrc
      have HFC := Lib.hid hfc
      clear hrc hfc
      go_wp2_with (fail)
      refine bodyPost_ret (results_cell3 (p := 4) (u := 5) (v := 6) (by kernel_rfl) _ _ R 63 _ (0, 0) _ (.string st) (.int .i64 0) rfl rfl rfl HRC.out Try.underlying63 rfl (by kernel_rfl)) rfl ?_
      have hRe := HR.out
      have hGe := HG.out
      have hz := HB2.out.size
      have hz3 := HB3.out.size
      have hz4 := HF4.out.size
      exact ⟨by rw [HRV2.out], HB2.out.trans ((HB3.out.mono hz).trans ((HF4.out.below (B := w.heap.size) (by omega) (fun b e => by omega)).trans (HFC.out.below (B := w.heap.size) (by omega) (fun b e => by omega))))⟩
  | false =>
    have hnn : ¬ (0 ≤ n ∧ n < nl) := of_decide_eq_false HBD.out.symm
    have hrv : r = (nw, ⟨#[]⟩, 6) := by rw [HRV.out]; unfold toR; rw [if_neg (by rw [← HN.out]; exact hnn)]
    have HRV2 := Lib.hid hrv
    clear hnn hrv
    go_wp2_with (fail)
    refine bodyPost_ret (results_cell3 (p := 4) (u := 5) (v := 6) (by kernel_rfl) _ _ R 63 _ (0, 0) _ (.string ⟨#[]⟩) (.int .i64 6) rfl rfl rfl (set3 HR3.out _ _ _) Try.underlying63 rfl (by kernel_rfl)) rfl ?_
    have hF := set3_frm w3 R (.slice (some ⟨ge, 0, none⟩) nl ce) (.int .i64 nw) (.slice ga gn gc)
    have hRe := HR.out
    have hz := HB2.out.size
    exact ⟨by rw [HRV2.out], HB2.out.trans ((HB3.out.mono hz).trans (hF.below (B := w.heap.size) (by have := HB3.out.size; omega) (fun b e => by omega)))⟩
end Go.Proofs.Ythneinepdbkgeaa
