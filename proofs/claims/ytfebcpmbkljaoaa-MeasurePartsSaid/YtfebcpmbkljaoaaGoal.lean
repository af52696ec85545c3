/- The walk of MeasureGoals. -/
import Derived.Test.YtfebcpmbkljaoaaMeaZ
namespace Go.Proofs.Ytfebcpmbkljaoaa
open Go.RowKit Go.HR
set_option linter.unusedVariables false
set_option linter.unusedSimpArgs false
set_option linter.unusedSectionVars false
/-- One round of the outer loop: what it knows of the goals. -/
structure GoalR (L : List Nat) (W : World) (g : Nat) (gs : List StepV) : Prop where
  c : ∀ (i : Nat) x, gs[i]? = some x → W.cell? ⟨g, i * 2, none⟩ = some x.pv.v ∧ W.cell? ⟨g, i * 2 + 1, none⟩ = some (.int .i64 (x.d.wt : Nat)) ∧ PlaceB W x.pv x.d.pl
  d : gs.map (·.d) = goalsB L
theorem IsG.goalR {L : List Nat} {W : World} {b n c g : Nat} {gs : List StepV} (h : IsG W b (.slice (some ⟨g, 0, none⟩) n c) gs) (hd : gs.map (·.d) = goalsB L) : GoalR L W g gs := by
  refine ⟨fun i x hx => ?_, hd⟩
  obtain ⟨g', cap, hv, c0, c1⟩ := goal_at h hx
  simp only [Value.slice.injEq, Option.some.injEq, Addr.mk.injEq, and_true] at hv
  obtain ⟨rfl, _⟩ := hv
  exact ⟨c0, c1, h.2 x (List.mem_of_getElem? hx)⟩
theorem GoalR.below {L : List Nat} {W W' : World} {g : Nat} {gs : List StepV} (h : GoalR L W g gs) (hb : Below W.heap.size W W') : GoalR L W' g gs := by
  refine ⟨fun i x hx => ?_, h.d⟩
  obtain ⟨c0, c1, c2⟩ := h.c i x hx
  exact ⟨cell_then c0 hb, cell_then c1 hb, c2.same fun k hk => hb.block k (c2.lt hk)⟩
set_option maxRecDepth 100000 in
set_option maxHeartbeats 8000000 in
theorem goals_walk (w : World) (a : Option Addr) (n c : Nat) (L : List Nat) (h : BytesAt w a n L) : Calls Try.prog 3 #[.slice a n c] w (RetB w (.bool true)) := by
  have hb := built_call w a n c L h
  unfold RetP at hb
  have hcode := built_code L
  have hsz := built_size L
  have hho := goalsB_holes L
  obtain ⟨t, ht⟩ : ∃ t, t = builtT L := ⟨_, rfl⟩
  rw [← ht] at hb hcode hsz hho
  have hgo := fun (W : World) (sv : SL) (hs : IsPs W.heap.size W sv t.subs) => goals_call W t sv SL.nil [] hs (by omega) (IsW.nil W) (by simp) (by simp)
  have hco := fun (W : World) (sv : SL) (hs : IsPs W.heap.size W sv t.subs) => count_call 10000 (by omega) t sv W (by omega) hs
  unfold RetG at hgo
  simp only [hcode] at hgo
  obtain ⟨rule, ⟨op, name, ⟨aa, an, ac⟩, ⟨fa, fn, fc⟩, label, ⟨ma, mn, mc⟩⟩, subs⟩ := t
  obtain ⟨m, hm⟩ : ∃ m, m = (goalsB L).length := ⟨_, rfl⟩
  rw [← hho, ← hm] at hco
  have hm3 : m ≤ 300 := by rw [hm]; exact goalsB_len L
  simp only [PT.arr, PT.rule, PT.o, PT.subs, SL.v, SL.nil] at hb hgo hco
  have HT := Lib.hid ht
  have HB := Lib.hid hb
  have HG := Lib.hid hgo
  have HC := Lib.hid hco
  have HM := Lib.hid hm
  clear hb hcode hsz hho ht hgo hco hm h
  have haw := awake_call
  go_enter Try.func3, Try.ntmps3
  go_upto_region 2 with (go_at_call 10; (refine HB.out.mono ?_; rintro e w1 ⟨⟨sa, sn, sc⟩, rfl, hq1, hB1⟩))
  have hs1 := hq1.ps (n0 := w1.heap.size) fun k hk => hk.2
  have hs2 := hs1.up ((Below.refl _ w1).alloc (Nat.le_refl _) (.cells #[.string rule, .int .u8 op, .string name, .slice aa an ac, .slice fa fn fc, .int .i64 label, .slice sa sn sc, .slice ma mn mc] 30))
  have hg2 := HG.out _ ⟨sa, sn, sc⟩ hs2
  have HG2 := Lib.hid hg2
  have HS2 := Lib.hid hs2
  have HB1 := Lib.hid hB1
  clear hs1 hg2 hs2 hB1 hq1
  go_upto_region 3 with (go_at_call 11; (refine HG2.out.mono ?_; rintro e w2 ⟨v, gs, rfl, hgd, hGs, hB2⟩))
  obtain ⟨ga, gc, rfl⟩ := goal_form hGs
  have hgl : gs.length = m := by rw [HM.out, goalsB, ← HT.out, ← hgd, List.length_map]
  rw [hgl]
  have hpb : w2.heap[w1.heap.size]? = some (.cells #[.string rule, .int .u8 op, .string name, .slice aa an ac, .slice fa fn fc, .int .i64 label, .slice sa sn sc, .slice ma mn mc] 30 (0, 0)) := (hB2.block _ (by simp)).trans (HK.blk_new _ _)
  have p0 := HK.blk_cell hpb 0
  have p1 := HK.blk_cell hpb 1
  have p2 := HK.blk_cell hpb 2
  have p3 := HK.blk_cell hpb 3
  have p4 := HK.blk_cell hpb 4
  have p5 := HK.blk_cell hpb 5
  have p6 := HK.blk_cell hpb 6
  have p7 := HK.blk_cell hpb 7
  have hs3 := HS2.out.up hB2
  have hc3 := HC.out w2 ⟨sa, sn, sc⟩ hs3
  have HC3 := Lib.hid hc3
  have HS3 := Lib.hid hs3
  have HB2 := Lib.hid (below_then HB1.out (((Below.refl _ w1).alloc (Nat.le_refl _) _).trans (hB2.mono (by simp))))
  have HPB := Lib.hid hpb
  have HGL := Lib.hid hgl
  have HGD := Lib.hid (hgd.trans (by rw [HT.out]; rfl : _ = goalsB L))
  have HGS := Lib.hid hGs
  clear hpb hs3 hc3 hB2 hgl hgd hGs HS2
  go_upto_region 5 with (go_at_call 12; (refine HC3.out.mono ?_; rintro e w3 ⟨rfl, hB3⟩))
  have HB3 := Lib.hid (below_then HB2.out hB3)
  have HPB3 := Lib.hid ((hB3.block _ (HK.blk_lt HPB.out)).trans HPB.out)
  have HS4 := Lib.hid (HS3.out.up hB3)
  have HGS3 := Lib.hid (HGS.out.below hB3)
  have HWM := Lib.hid (HK.blk_lt HPB3.out)
  clear p0 p1 p2 p3 p4 p5 p6 p7 hB3 HPB HS3 HGS HB2 HC3 HC HG2
  go_wp2_with (fail)
  go_loopw [30] (fun i wr => ∃ k : Nat, k ≤ m ∧ i = .int .i64 k ∧ Below w3.heap.size w3 wr) (fun i _ => m - (intOf i).toNat)
  case atStart => exact ⟨0, by omega, rfl, Below.refl _ _⟩
  case round =>
    obtain ⟨wo, rfl⟩ : ∃ wo : World, wo = wr := ⟨_, rfl⟩
    obtain ⟨k, hk, rfl, hBr⟩ := hrel
    by_cases h1 : k < m
    · obtain ⟨x, hx⟩ : ∃ x, gs[k]? = some x := ⟨_, List.getElem?_eq_getElem (by rw [HGL.out]; exact h1)⟩
      obtain ⟨g, hga⟩ : ∃ g, ga = some ⟨g, 0, none⟩ := by
        obtain ⟨g, cap, hv, _⟩ := goal_at HGS3.out hx
        simp only [Value.slice.injEq] at hv
        exact ⟨g, hv.1⟩
      subst hga
      have hR := (IsG.goalR HGS3.out HGD.out).below hBr
      obtain ⟨c0, c1, cp⟩ := hR.c k x hx
      have hxm : x.d ∈ goalsB L := by rw [← hR.d]; exact List.mem_map.2 ⟨x, List.mem_of_getElem? hx, rfl⟩
      obtain ⟨hrl, hwk, hpl⟩ := goalsB_mem hxm
      have hGxs := hR
      obtain ⟨⟨pl, wt, T⟩, ⟨pa, pn, pc⟩, xsv⟩ := x
      simp only [SL.v] at c0 c1 cp hrl hwk hpl
      have b1 : (0 : Int) ≤ (k : Int) := by omega
      have b2 : (k : Int) < (m : Int) := by omega
      have HR := Lib.hid hR
      have HCP := Lib.hid cp
      have HRL := Lib.hid hrl
      have HWK := Lib.hid hwk
      have HBR := Lib.hid hBr
      have HX := Lib.hid hx
      have hpn : pn = pl.length := cp.sn
      have HPN := Lib.hid hpn
      clear hR cp hrl hwk hBr hx hxm hGxs hpn
      go_upto_region 8 with (fail)
      go_cut [48] from 35 to 48 (fun cv wx => cv = .bool false ∧ ∃ d, wx = (wo.alloc (.cells #[.slice pa pn pc, .int .i64 wt] 39)).drewN d)
      case first =>
        by_cases hk0 : k = 0
        · subst hk0
          go_quiet (fail)
          go_wp2_with (fail)
          go_meet
          case rel => exact ⟨rfl, _, rfl⟩
        · obtain ⟨k', hk'⟩ : ∃ k', k = k' + 1 := ⟨k - 1, by omega⟩
          obtain ⟨y, hy⟩ : ∃ y, gs[k']? = some y := ⟨_, List.getElem?_eq_getElem (by rw [HGL.out]; omega)⟩
          obtain ⟨d0, d1, dp⟩ := HR.out.c k' y hy
          have hord : ordI (plD y.d) (pl.map fun n : Nat => (n : Int)) < 0 := by
            have hp := goalsB_sorted L
            rw [← HR.out.d, List.pairwise_map] at hp
            obtain ⟨l1, e1⟩ := List.getElem?_eq_some_iff.1 hy
            obtain ⟨l2, e2⟩ := List.getElem?_eq_some_iff.1 HX.out
            have := List.pairwise_iff_getElem.1 hp k' k l1 l2 (by omega)
            rw [e1, e2] at this
            exact this
          have hyl : y.d.pl.length ≤ 12 := (goalsB_mem (by rw [← HR.out.d]; exact List.mem_map.2 ⟨y, List.mem_of_getElem? hy, rfl⟩)).2.2
          obtain ⟨⟨qpl, qwt, Q⟩, ⟨qa, qn, qc⟩, qsv⟩ := y
          simp only [SL.v] at d0 d1 dp hord hyl
          have hbx := (Below.refl _ wo).alloc (Nat.le_refl _) (.cells #[.slice pa pn pc, .int .i64 (wt : Nat)] 39)
          have hless := fun d => less_call ((wo.alloc (.cells #[.slice pa pn pc, .int .i64 (wt : Nat)] 39)).drewN d) ⟨qa, qn, qc⟩ ⟨pa, pn, pc⟩ _ _ (dp.isI.below (below_drewN hbx d)) (HCP.out.isI.below (below_drewN hbx d)) (by simp; omega) (by simp; omega)
          have hdec : decide (ordI (qpl.map fun n : Nat => (n : Int)) (pl.map fun n : Nat => (n : Int)) < 0) = true := decide_eq_true hord
          rw [hdec] at hless
          have HL := Lib.hid hless
          have e0 : (wo.alloc (.cells #[.slice pa pn pc, .int .i64 (wt : Nat)] 39)).cell? ⟨g, k' * 2, none⟩ = some (.slice qa qn qc) := cell_then d0 hbx
          have f1 : (k : Int) - 1 = (k' : Int) := by omega
          have f2 : (0 : Int) ≤ (k' : Int) := by omega
          have f3 : (k' : Int) < (m : Int) := by omega
          have f4 : (0 : Int) < (k : Int) := by omega
          have f5 : 0 < k := by omega
          have f6 : decide (0 < k) = true := decide_eq_true (by omega)
          clear hk' hy dp hord hless hdec hbx d0 d1
          go_quiet ((go_at_call 13; exact Calls.quiet_of (HL.out _)))
          go_wp2_with (fail)
          go_meet
          case rel => exact ⟨rfl, _, rfl⟩
      case rest =>
        obtain ⟨rfl, d, hwg⟩ := hcut
        obtain ⟨wg, rfl⟩ : ∃ wg, wg = wc := ⟨_, rfl⟩
        have hBg : Below wo.heap.size wo wg := by rw [hwg]; exact below_drewN ((Below.refl _ wo).alloc (Nat.le_refl _) _) d
        have hgb : wg.heap[wo.heap.size]? = some (.cells #[.slice pa pn pc, .int .i64 (wt : Nat)] 39 (0, 0)) := by rw [hwg]; exact HK.blk_drewN (HK.blk_new _ _) d
        have hzg : wg.heap.size = wo.heap.size + 1 := by rw [hwg]; simp
        have hBR3 := HBR.out
        have hB3g : Below w3.heap.size w3 wg := below_then hBR3 hBg
        have hpb : wg.heap[w1.heap.size]? = some (.cells #[.string rule, .int .u8 op, .string name, .slice aa an ac, .slice fa fn fc, .int .i64 label, .slice sa sn sc, .slice ma mn mc] 30 (0, 0)) := (hB3g.block _ HWM.out).trans HPB3.out
        have p0 := HK.blk_cell hpb 0
        have p1 := HK.blk_cell hpb 1
        have p2 := HK.blk_cell hpb 2
        have p3 := HK.blk_cell hpb 3
        have p4 := HK.blk_cell hpb 4
        have p5 := HK.blk_cell hpb 5
        have p6 := HK.blk_cell hpb 6
        have p7 := HK.blk_cell hpb 7
        have g0 : ∀ o, (wg.alloc o).cell? ⟨wo.heap.size, 0, none⟩ = some (.slice pa pn pc) := fun o => HK.blk_cell (HK.blk_alloc hgb o) 0
        have HBG := Lib.hid hBg
        have HGB := Lib.hid hgb
        have HZG := Lib.hid hzg
        have HB3G := Lib.hid hB3g
        have HSG := Lib.hid (HS4.out.up hB3g)
        clear hwg hBg hgb hzg hBR3 hB3g hpb c0 c1
        go_wp2_with (fail)
        have hpn12 : pn ≤ 12 := by have := HPN.out; omega
        go_loopw [9, 53] (fun wv j wq => ∃ (jn V : Nat) (q : PT) (sq : SL), jn ≤ pn ∧ j = .int .i64 jn ∧ wv = .int .i64 V ∧ V ≤ 1152921504606846976 ∧ walkT q V (pl.drop jn) = some (T, wt) ∧ IsPs wg.heap.size wq sq q.subs ∧ sizeT q ≤ 300 ∧ wq.heap[wg.heap.size]? = some (.cells (q.arr sq) 30 (0, 0)) ∧ Below wg.heap.size wg wq) (fun _ j _ => pn - (intOf j).toNat)
        case atStart =>
          refine ⟨0, 1152921504606846976, PT.node rule ⟨op, name, ⟨aa, an, ac⟩, ⟨fa, fn, fc⟩, label, ⟨ma, mn, mc⟩⟩ subs, ⟨sa, sn, sc⟩, by omega, rfl, rfl, by omega, ?_, HSG.out.same (fun b hb => Below.heap_alloc wg _ b hb), ?_, HK.blk_new wg _, (Below.refl _ wg).alloc (Nat.le_refl _) _⟩
          · have := HWK.out
            rw [← HT.out] at this
            exact this
          · rw [HT.out]; exact built_size L
        case round =>
          obtain ⟨jn, V, q, sq, hj, rfl, rfl, hV, hW, hS, hQ, hX, hB⟩ := hrel
          obtain ⟨q, ⟨o2, n2, ⟨ba, bn, bc⟩, ⟨da, dn, dc⟩, l2, ⟨na, nn, nc⟩⟩, s2⟩ := q
          obtain ⟨ta, tn, tc⟩ := sq
          simp only [PT.arr, PT.rule, PT.o, PT.subs, SL.v] at hS hX
          have htn : tn = s2.length := hS.len
          have hx0 : wr.cell? ⟨wg.heap.size, 0, none⟩ = some (.string q) := HK.blk_cell hX 0
          have hx1 : wr.cell? ⟨wg.heap.size, 1, none⟩ = some (.int .u8 o2) := HK.blk_cell hX 1
          have hx2 : wr.cell? ⟨wg.heap.size, 2, none⟩ = some (.string n2) := HK.blk_cell hX 2
          have hx3 : wr.cell? ⟨wg.heap.size, 3, none⟩ = some (.slice ba bn bc) := HK.blk_cell hX 3
          have hx4 : wr.cell? ⟨wg.heap.size, 4, none⟩ = some (.slice da dn dc) := HK.blk_cell hX 4
          have hx5 : wr.cell? ⟨wg.heap.size, 5, none⟩ = some (.int .i64 l2) := HK.blk_cell hX 5
          have hx6 : wr.cell? ⟨wg.heap.size, 6, none⟩ = some (.slice ta tn tc) := HK.blk_cell hX 6
          have hx7 : wr.cell? ⟨wg.heap.size, 7, none⟩ = some (.slice na nn nc) := HK.blk_cell hX 7
          have hxf := fun i => HK.blk_frozen hX i
          have HTN := Lib.hid htn
          have HS := Lib.hid hS
          have HX8 := Lib.hid hX
          have HBW := Lib.hid hB
          have HW := Lib.hid hW
          have HQ := Lib.hid hQ
          clear htn hS hX hB hW hQ g0 p0 p1 p2 p3 p4 p5 p6 p7
          by_cases h2 : jn < pn
          · obtain ⟨kj, hkj⟩ : ∃ kj, pl[jn]? = some kj := ⟨_, List.getElem?_eq_getElem (by rw [← HPN.out]; exact h2)⟩
            have hdr : pl.drop jn = kj :: pl.drop (jn + 1) := by
              obtain ⟨hl, he⟩ := List.getElem?_eq_some_iff.1 hkj
              rw [List.drop_eq_getElem_cons hl, he]
            have hw2 := HW.out
            rw [hdr] at hw2
            obtain ⟨q2, hq2, hw3⟩ := walkT_cons hw2
            simp only [PT.subs] at hq2 hw3
            have hkl : kj < tn := by rw [HTN.out]; exact (List.getElem?_eq_some_iff.1 hq2).1
            obtain ⟨g2, og, rfl⟩ := ps_addr HS.out hq2
            obtain ⟨sv2, hc, hps⟩ := row_at HS.out hq2
            have hsz2 : sizeT q2 ≤ 300 := by
              have h9 := HQ.out
              rw [sizeT_eq] at h9
              have := sizeF_mem hq2
              simp only [PT.subs] at h9
              omega
            have htn3 : tn ≤ 300 := by
              have h9 := HQ.out
              rw [sizeT_eq] at h9
              have := sizeF_len s2
              simp only [PT.subs] at h9
              rw [HTN.out]; omega
            obtain ⟨r2, ⟨op2, name2, ⟨ea, en, ec⟩, ⟨ia, i2, ic⟩, label2, ⟨ka, kn, kc⟩⟩, s3⟩ := q2
            obtain ⟨va, vn, vc⟩ := sv2
            simp only [PT.vals, PT.rule, PT.o, SL.v, PT.subs] at hc hps
            have y0 : wr.cell? ⟨g2, og + kj * 8, none⟩ = some (.string r2) := hc 0 _ rfl
            have y1 : wr.cell? ⟨g2, og + kj * 8 + 1, none⟩ = some (.int .u8 op2) := hc 1 _ rfl
            have y2 : wr.cell? ⟨g2, og + kj * 8 + 2, none⟩ = some (.string name2) := hc 2 _ rfl
            have y3 : wr.cell? ⟨g2, og + kj * 8 + 3, none⟩ = some (.slice ea en ec) := hc 3 _ rfl
            have y4 : wr.cell? ⟨g2, og + kj * 8 + 4, none⟩ = some (.slice ia i2 ic) := hc 4 _ rfl
            have y5 : wr.cell? ⟨g2, og + kj * 8 + 5, none⟩ = some (.int .i64 label2) := hc 5 _ rfl
            have y6 : wr.cell? ⟨g2, og + kj * 8 + 6, none⟩ = some (.slice va vn vc) := hc 6 _ rfl
            have y7 : wr.cell? ⟨g2, og + kj * 8 + 7, none⟩ = some (.slice ka kn kc) := hc 7 _ rfl
            have hpi := ((HCP.out.same fun b hb => HBG.out.block b (HCP.out.lt hb)).isI).below HBW.out
            obtain ⟨gp, op, hpa, hpc⟩ := hpi.2.2.resolve_left (fun e => by
              have := congrArg List.length e
              rw [List.length_map] at this
              have h9 := HPN.out
              simp only [List.length_nil] at this; omega)
            simp only at hpa
            subst hpa
            have yp : wr.cell? ⟨gp, op + jn, none⟩ = some (.int .i64 kj) := hpc jn kj (by rw [List.getElem?_map, hkj]; rfl)
            obtain ⟨w2, hw2e⟩ : ∃ w2, w2 = V / (2 * tn) := ⟨_, rfl⟩
            have hw2l : w2 ≤ V := by rw [hw2e]; exact Nat.div_le_self _ _
            rw [← HTN.out, ← hw2e] at hw3
            have m1 : IntKind.i64.wrap (2 * (tn : Int)) = 2 * (tn : Int) := IntWalk.i64_in _ (by omega)
            have m2 : (V : Int) / (2 * (tn : Int)) = (w2 : Int) := by rw [hw2e, Int.natCast_ediv]; rfl
            have m4 : IntKind.i64.wrap (w2 : Int) = (w2 : Int) := IntWalk.i64_in _ (by omega)
            have m3 : (V : Int).tdiv (2 * (tn : Int)) = (w2 : Int) := by rw [Int.tdiv_eq_ediv_of_nonneg (by omega)]; exact m2
            have m5 : (2 * (tn : Int) == 0) = false := by simp; omega
            have m6 : ¬ tn = 0 := by omega
            have m7 : ¬ (tn : Int) = 0 := by omega
            have m8 : ¬ 2 * (tn : Int) = 0 := by omega
            have m9 : (0 : Int) < 2 * (tn : Int) := by omega
            have m10 : (0 : Int) ≤ (V : Int) := by omega
            have z1 : (0 : Int) ≤ (jn : Int) := by omega
            have z2 : (jn : Int) < (pn : Int) := by omega
            have z3 : (0 : Int) ≤ (kj : Int) := by omega
            have z4 : (kj : Int) < (tn : Int) := by omega
            have HW3 := Lib.hid hw3
            have HPS := Lib.hid hps
            clear hkj hdr hw2 hq2 hw3 hc hps hpi hpc hw2e
            go_wp2_with (fail)
            have hF8 := set8_frm wr wg.heap.size (.string r2) (.int .u8 op2) (.string name2) (.slice ea en ec) (.slice ia i2 ic) (.int .i64 label2) (.slice va vn vc) (.slice ka kn kc)
            have HF8 := Lib.hid hF8
            clear hF8
            go_roundw
            case rel =>
              have hzz := HBW.out.size
              refine ⟨jn + 1, w2, .node r2 ⟨op2, name2, ⟨ea, en, ec⟩, ⟨ia, i2, ic⟩, label2, ⟨ka, kn, kc⟩⟩ s3, ⟨va, vn, vc⟩, by omega, by go_num, rfl, by omega, HW3.out, HPS.out.same (fun b hb => HF8.out.block b (by omega) (by omega)), hsz2, set8 HX8.out _ _ _ _ _ _ _ _, ?_⟩
              exact HBW.out.trans (HF8.out.below (by omega) (fun b e => by omega))
            case measure => simp [intOf]; omega
          · have hjp : jn = pn := by omega
            subst hjp
            have hw2 := HW.out
            rw [List.drop_of_length_le (by rw [← HPN.out]; omega)] at hw2
            simp only [walkT, Option.some.injEq, Prod.mk.injEq] at hw2
            obtain ⟨hT, rfl⟩ := hw2
            have hr := HRL.out
            rw [← hT] at hr
            simp only [PT.rule] at hr
            subst hr
            have z2 : ¬ ((jn : Int) < (jn : Int)) := by omega
            have hgw : wr.heap[wo.heap.size]? = some (.cells #[.slice pa jn pc, .int .i64 (V : Nat)] 39 (0, 0)) := (HBW.out.block _ (by have := HZG.out; omega)).trans HGB.out
            have g1 : wr.cell? ⟨wo.heap.size, 1, none⟩ = some (.int .i64 (V : Nat)) := HK.blk_cell hgw 1
            clear hgw hT
            go_wp2_with (fail)
            go_roundw
            case rel => exact ⟨k + 1, by omega, by go_num, below_then HB3G.out HBW.out⟩
            case measure => simp [intOf]; omega
    · have hkm : k = m := by omega
      subst hkm
      have z2 : ¬ ((k : Int) < (k : Int)) := by omega
      have HBR := Lib.hid hBr
      clear hBr
      go_wp2_with (go_at_call 14; (refine (haw _).mono ?_; rintro e w' ⟨rfl, hBz⟩))
      go_ret
      exact ⟨rfl, below_then HB3.out (below_then HBR.out hBz)⟩
end Go.Proofs.Ytfebcpmbkljaoaa
