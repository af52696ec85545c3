/- The reference's Redo (34). -/
import Derived.Test.YthneinepdbkgeaaRefd
namespace Go.Proofs.Ythneinepdbkgeaa
open Go.RowKit Go.HK
set_option linter.unusedVariables false
set_option linter.unusedSimpArgs false
set_option linter.unusedSectionVars false
set_option maxRecDepth 100000 in
set_option maxHeartbeats 4000000 in
/-- Redo. -/
theorem rredo_any {nodes : List Go.HK.HN} {z : Nat} (h : WF nodes z) (w : World) (ge ce gw gc : Nat) (m : Nat) (went : List Nat) (hg : RowAt w gw went.length went) (hw : ∀ x ∈ went, x < nodes.length) (hwl : went.length ≤ 100000) (he : EntsAt w ge (ents nodes)) : Calls Try.prog 34 #[.agg #[.slice (some ⟨ge, 0, none⟩) nodes.length ce, .int .i64 (m : Int), .slice (some ⟨gw, 0, none⟩) went.length gc]] w (RetTo w ge nodes.length ce (some ⟨gw, 0, none⟩) went.length gc (toR (ents nodes) m (favW nodes went m))) := by
  have hfav := fun (W : World) (hB : Below w.heap.size w W) => rfav_any h W ge ce gw gc (m : Int) went m (he.below hB (Nat.le_refl _)) (hg.below hB (Nat.le_refl _)) hw hwl
  obtain ⟨es, hes⟩ : ∃ es, es = ents nodes := ⟨_, rfl⟩
  rw [← hes] at he ⊢
  obtain ⟨nl, hnl⟩ : ∃ nl, nl = nodes.length := ⟨_, rfl⟩
  obtain ⟨gn, hgn⟩ : ∃ gn, gn = went.length := ⟨_, rfl⟩
  obtain ⟨ga, hga⟩ : ∃ ga : Option Addr, ga = some ⟨gw, 0, none⟩ := ⟨_, rfl⟩
  have hn : nl = es.length := by rw [hnl, hes, ents_len]
  rw [← hnl, ← hgn, ← hga] at hfav ⊢
  obtain ⟨nw, hnw⟩ : ∃ nw : Int, nw = (m : Int) := ⟨_, rfl⟩
  obtain ⟨G, hG⟩ : ∃ G, G = w.heap.size := ⟨_, rfl⟩
  obtain ⟨R, hR⟩ : ∃ R, R = w.heap.size + 1 := ⟨_, rfl⟩
  obtain ⟨w2, hw2⟩ : ∃ w2, w2 = (w.alloc (.cells #[.slice (some ⟨ge, 0, none⟩) nl ce, .int .i64 (m : Int), .slice ga gn gc] 63)).alloc (.cells #[.slice none 0 0, .int .i64 0, .slice none 0 0] 63) := ⟨_, rfl⟩
  have hB2 : Below w.heap.size w w2 := by rw [hw2]; exact ((Below.refl _ w).alloc (Nat.le_refl _) _).alloc (by simp) _
  have hX2 : w2.heap[G]? = some (.cells #[.slice (some ⟨ge, 0, none⟩) nl ce, .int .i64 (m : Int), .slice ga gn gc] 63 (0, 0)) := by rw [hw2, hG]; exact HK.blk_alloc (HK.blk_new _ _) _
  have hR2 : w2.heap[R]? = some (.cells #[.slice none 0 0, .int .i64 0, .slice none 0 0] 63 (0, 0)) := by rw [hw2, hR]; exact blk_new19 _ _ _
  have hGR : G ≠ R := by omega
  have hRG : R ≠ G := by omega
  have he2 := he.below hB2 (Nat.le_refl _)
  have x0 : w2.cell? ⟨G, 0, none⟩ = some (.slice (some ⟨ge, 0, none⟩) nl ce) := HK.blk_cell hX2 0
  have x1 : w2.cell? ⟨G, 1, none⟩ = some (.int .i64 (m : Int)) := HK.blk_cell hX2 1
  have x2 : w2.cell? ⟨G, 2, none⟩ = some (.slice ga gn gc) := HK.blk_cell hX2 2
  have HX2 := Lib.hid hX2
  have HR2 := Lib.hid hR2
  have HE2 := Lib.hid he2
  have HB2 := Lib.hid hB2
  have HW2 := Lib.hid hw2
  have HG := Lib.hid hG
  have HR := Lib.hid hR
  obtain ⟨par, hpar⟩ : ∃ par, par = favW nodes went m := ⟨_, rfl⟩
  rw [← hpar] at hfav ⊢
  have hto := fun (W : World) (hB : Below w2.heap.size w2 W) => rto_any W ge nl ce (m : Int) ga gn gc es par hn (he2.below hB (Nat.le_refl _))
  obtain ⟨r, hr⟩ : ∃ r, r = toR es m par := ⟨_, rfl⟩
  unfold RetTo at hto
  rw [← hr] at hto ⊢
  have HTO := Lib.hid hto
  have HFV := Lib.hid (fun (W : World) (hB : Below w2.heap.size w2 W) => hfav W (hB2.trans (hB.mono hB2.size)))
  clear hX2 hR2 he2 hB2 hw2 hG hR hn hes hnl hgn hga hpar hto hr he hnw hfav hg hw hwl
  go_enter Try.func34, Try.ntmps34
  go_upto_region 1 with (fail)
  rw [← HW2.out, ← HR.out, ← HG.out]
  go_cut [3, 4] from 5 to 13 (fun a b wx => a = .string r.2.1 ∧ b = .int .i64 r.2.2 ∧ wx.heap[R]? = some (.cells #[.slice (some ⟨ge, 0, none⟩) nl ce, .int .i64 r.1, .slice ga gn gc] 63 (0, 0)) ∧ Below w.heap.size w wx)
  case first =>
    have hd : Below w2.heap.size w2 w2.drew := ⟨rfl, rfl, rfl, Nat.le_refl _, fun _ _ => rfl⟩
    go_region_with (first
      | (go_at_call 58; (with_reducible refine (HFV.out _ hd).mono ?_); rintro e w3 ⟨rfl, hB3⟩; have hX3 := blk_up9 hB3 HX2.out; have y0 : w3.cell? ⟨G, 0, none⟩ = some (.slice (some ⟨ge, 0, none⟩) nl ce) := HK.blk_cell hX3 0; have y1 : w3.cell? ⟨G, 1, none⟩ = some (.int .i64 (m : Int)) := HK.blk_cell hX3 1; have y2 : w3.cell? ⟨G, 2, none⟩ = some (.slice ga gn gc) := HK.blk_cell hX3 2; have HB3 := Lib.hid (show Below w2.heap.size w2 w3 from ⟨hB3.os, hB3.tape, hB3.output, hB3.size, hB3.block⟩); clear hB3 hX3)
      | (go_at_call 57; (with_reducible refine (HTO.out _ HB3.out).mono ?_); rintro e w4 ⟨rfl, hB4⟩; have hB4 := HB3.out.trans (hB4.mono HB3.out.size); have hR4 := blk_up9 hB4 HR2.out; have q0 := HK.blk_cell hR4 0; have q1 := HK.blk_cell hR4 1; have q2 := HK.blk_cell hR4 2; have qf := fun i => HK.blk_frozen hR4 i; have HR4 := Lib.hid hR4; have HB4 := Lib.hid hB4; clear hR4 hB4))
    all_goals (
      simp only [Exit.inBlock, Exit.then]
      go_simp
      go_step
      go_meet)
    all_goals exact ⟨rfl, rfl, set3 (W := w4) HR4.out _ _ _, HB2.out.trans ((show Below w.heap.size w2 w4 from ⟨HB4.out.os, HB4.out.tape, HB4.out.output, HB4.out.size, fun k hk => HB4.out.block k (Nat.lt_of_lt_of_le hk HB2.out.size)⟩).trans ((set3_frm w4 R (.slice (some ⟨ge, 0, none⟩) nl ce) (.int .i64 r.1) (.slice ga gn gc)).below (B := w.heap.size) (Nat.le_trans HB2.out.size HB4.out.size) (fun b e => by have := HR.out; omega)))⟩
  case rest =>
    obtain ⟨rfl, rfl, hrc, hfc⟩ := hcut
    have HRC := Lib.hid hrc
    have HFC := Lib.hid hfc
    clear hrc hfc
    go_wp2_with (fail)
    refine bodyPost_ret (results_cell3 (p := 2) (u := 3) (v := 4) (by kernel_rfl) _ _ R 63 _ (0, 0) _ (.string r.2.1) (.int .i64 r.2.2) rfl rfl rfl HRC.out Try.underlying63 rfl (by kernel_rfl)) rfl ?_
    exact ⟨rfl, HFC.out⟩
end Go.Proofs.Ythneinepdbkgeaa
