/- The walk of MeasureApart. -/
import Derived.Test.YtfebcpmbkljaoaaAparp
import Derived.Test.YtfebcpmbkljaoaaApaB
import Derived.Test.YtfebcpmbkljaoaaEachB
import Derived.Deep.CutBlock
import Derived.Deep.RegionLaw
namespace Go.Proofs.Ytfebcpmbkljaoaa
open Go.RowKit Go.HR
set_option linter.unusedVariables false
set_option linter.unusedSimpArgs false
set_option linter.unusedSectionVars false
set_option maxRecDepth 100000 in
set_option maxHeartbeats 16000000 in
theorem apart_walk (w : World) (a0 a1 a2 : Option Addr) (n0 n1 n2 c0 c1 c2 : Nat) (L0 L1 L2 : List Nat) (h0 : BytesAt w a0 n0 L0) (h1 : BytesAt w a1 n1 L1) (h2 : BytesAt w a2 n2 L2) (n3 n4 : Nat) (hn3 : n3 ≤ 255) (hn4 : n4 ≤ 255) : Calls Try.prog 8 #[.slice a0 n0 c0, .slice a1 n1 c1, .slice a2 n2 c2, .int .u8 n3, .int .u8 n4] w (RetB w (.bool true)) := by
  have hb := built_call w a0 n0 c0 L0 h0
  have hbx := fun (W : World) (hB : Below w.heap.size w W) => built_call W a1 n1 c1 L1 (h1.below hB)
  have hby := fun (W : World) (hB : Below w.heap.size w W) => built_call W a2 n2 c2 L2 (h2.below hB)
  unfold RetP at hb hbx hby
  obtain ⟨na, hna⟩ : ∃ na, na = (goalsB L0).length := ⟨_, rfl⟩
  have hna3 : na ≤ 300 := by rw [hna]; exact goalsB_len L0
  obtain ⟨t, ht⟩ : ∃ t, t = builtT L0 := ⟨_, rfl⟩
  obtain ⟨x, hx⟩ : ∃ x, x = builtT L1 := ⟨_, rfl⟩
  obtain ⟨y, hy⟩ : ∃ y, y = builtT L2 := ⟨_, rfl⟩
  rw [← ht] at hb
  rw [← hx] at hbx
  rw [← hy] at hby
  have hm : measT t = true := by rw [ht]; exact built_meas L0
  have hgl0 : goalsL t [] = goalsB L0 := by rw [ht]; rfl
  have hgo := fun (W : World) (sv : SL) (hs : IsPs W.heap.size W sv t.subs) => goals_at (W := W) (t := t) (sv := sv) (s := SL.nil) (ps := []) hm hs (IsW.nil W) (fun p hp => by cases hp) (by simp) (by simp)
  simp only [List.map_nil, hgl0] at hgo
  obtain ⟨t0, ht0⟩ : ∃ t0, t0 = t := ⟨_, rfl⟩
  obtain ⟨x0, hx0⟩ : ∃ x0, x0 = x := ⟨_, rfl⟩
  obtain ⟨y0, hy0⟩ : ∃ y0, y0 = y := ⟨_, rfl⟩
  have hTB : t0 = builtT L0 := ht0.trans ht
  have hXB : x0 = builtT L1 := hx0.trans hx
  have hYB : y0 = builtT L2 := hy0.trans hy
  obtain ⟨rule, ⟨op, name, ⟨aa, an, ac⟩, ⟨fa, fn, fc⟩, label, ⟨ma, mn, mc⟩⟩, subs⟩ := t
  obtain ⟨xr, ⟨xo, xm, ⟨ba, bn, bc⟩, ⟨da, dn, dc⟩, xl, ⟨ea, en, ec⟩⟩, xs⟩ := x
  obtain ⟨yr, ⟨yo, ym, ⟨ia, i2, ic⟩, ⟨ja, jn, jc⟩, yl, ⟨ka, kn, kc⟩⟩, ys⟩ := y
  simp only [PT.arr, PT.rule, PT.o, PT.subs, SL.v, SL.nil] at hb hbx hby hgo
  unfold RetGo at hgo
  have haw := awake_call
  have HB := Lib.hid hb
  have HBX := Lib.hid hbx
  have HBY := Lib.hid hby
  have HGO := Lib.hid hgo
  have HNA := Lib.hid hna
  have HT := Lib.hid ht0
  have HX := Lib.hid hx0
  have HY := Lib.hid hy0
  have HTB := Lib.hid hTB
  have HXB := Lib.hid hXB
  have HYB := Lib.hid hYB
  clear hb hbx hby hgo hna ht hx hy hm hgl0 ht0 hx0 hy0 hTB hXB hYB h0 h1 h2
  go_enter Try.func8, Try.ntmps8
  go_upto_region 2 with (
    go_at_call 10
    first
      | (with_reducible refine HB.out.mono ?_
         rintro e w1 ⟨⟨sa, sn, sc⟩, rfl, hq1, hB1⟩
         have hx1 := HBX.out w1 hB1
         have HX1 := Lib.hid hx1
         have HQ1 := Lib.hid hq1
         have HB1 := Lib.hid hB1
         clear hq1 hB1 hx1)
      | (with_reducible refine HX1.out.mono ?_
         rintro e w2 ⟨⟨ta, tn, tc⟩, rfl, hq2, hB2⟩
         have hy2 := HBY.out w2 (below_then HB1.out hB2)
         have HY2 := Lib.hid hy2
         have HQ2 := Lib.hid hq2
         have HB2 := Lib.hid hB2
         clear hq2 hB2 hy2)
      | (with_reducible refine HY2.out.mono ?_
         rintro e w3 ⟨⟨ua, un, uc⟩, rfl, hq3, hB3⟩
         have HQ3 := Lib.hid hq3
         have HB3 := Lib.hid hB3
         clear hq3 hB3))
  obtain ⟨w4, hw4⟩ : ∃ w4, w4 = ((w3.alloc (.cells #[.string rule, .int .u8 op, .string name, .slice aa an ac, .slice fa fn fc, .int .i64 label, .slice sa sn sc, .slice ma mn mc] 30)).alloc (.cells #[.string xr, .int .u8 xo, .string xm, .slice ba bn bc, .slice da dn dc, .int .i64 xl, .slice ta tn tc, .slice ea en ec] 30)).alloc (.cells #[.string yr, .int .u8 yo, .string ym, .slice ia i2 ic, .slice ja jn jc, .int .i64 yl, .slice ua un uc, .slice ka kn kc] 30) := ⟨_, rfl⟩
  rw [← hw4]
  obtain ⟨P, hP⟩ : ∃ P, P = w3.heap.size := ⟨_, rfl⟩
  rw [← hP]
  have hB34 : Below w3.heap.size w3 w4 := by rw [hw4]; exact bl_al (bl_al (bl_al (Below.refl _ _)))
  have hpb : w4.heap[P]? = some (.cells #[.string rule, .int .u8 op, .string name, .slice aa an ac, .slice fa fn fc, .int .i64 label, .slice sa sn sc, .slice ma mn mc] 30 (0, 0)) := by rw [hw4, hP]; exact HK.blk_alloc (HK.blk_alloc (HK.blk_new _ _) _) _
  have hxb : w4.heap[P + 1]? = some (.cells #[.string xr, .int .u8 xo, .string xm, .slice ba bn bc, .slice da dn dc, .int .i64 xl, .slice ta tn tc, .slice ea en ec] 30 (0, 0)) := by rw [hw4, hP]; exact HK.blk_alloc (blk_new1 _ _ _) _
  have hyb : w4.heap[P + 1 + 1]? = some (.cells #[.string yr, .int .u8 yo, .string ym, .slice ia i2 ic, .slice ja jn jc, .int .i64 yl, .slice ua un uc, .slice ka kn kc] 30 (0, 0)) := by rw [hw4, hP]; exact blk_new2 _ _ _ _
  have hs : IsPs w4.heap.size w4 ⟨sa, sn, sc⟩ subs := ((HQ1.out.ps (n0 := w1.heap.size) fun k hk => hk.2).up (below_then HB2.out HB3.out)).up hB34
  have hxs : IsPs w4.heap.size w4 ⟨ta, tn, tc⟩ xs := ((HQ2.out.ps (n0 := w2.heap.size) fun k hk => hk.2).up HB3.out).up hB34
  have hys : IsPs w4.heap.size w4 ⟨ua, un, uc⟩ ys := (HQ3.out.ps (n0 := w3.heap.size) fun k hk => hk.2).up hB34
  have hB4 := below_then HB1.out (below_then HB2.out (below_then HB3.out hB34))
  obtain ⟨PX, hPX⟩ : ∃ PX, PX = P + 1 := ⟨_, rfl⟩
  obtain ⟨PY, hPY⟩ : ∃ PY, PY = P + 1 + 1 := ⟨_, rfl⟩
  rw [← hPY]
  rw [← hPX]
  rw [← hPX] at hxb
  rw [← hPY] at hyb
  have hg4 := HGO.out w4 ⟨sa, sn, sc⟩ hs
  simp only at hg4
  have HG4 := Lib.hid hg4
  have HPB := Lib.hid hpb
  have HXBX := Lib.hid hxb
  have HYBX := Lib.hid hyb
  have HPS := Lib.hid hs
  have HXS := Lib.hid hxs
  have HYS := Lib.hid hys
  have HB4 := Lib.hid hB4
  have p0 : w4.cell? ⟨P, 0, none⟩ = some (.string rule) := HK.blk_cell hpb 0
  have p1 : w4.cell? ⟨P, 1, none⟩ = some (.int .u8 op) := HK.blk_cell hpb 1
  have p2 : w4.cell? ⟨P, 2, none⟩ = some (.string name) := HK.blk_cell hpb 2
  have p3 : w4.cell? ⟨P, 3, none⟩ = some (.slice aa an ac) := HK.blk_cell hpb 3
  have p4 : w4.cell? ⟨P, 4, none⟩ = some (.slice fa fn fc) := HK.blk_cell hpb 4
  have p5 : w4.cell? ⟨P, 5, none⟩ = some (.int .i64 label) := HK.blk_cell hpb 5
  have p6 : w4.cell? ⟨P, 6, none⟩ = some (.slice sa sn sc) := HK.blk_cell hpb 6
  have p7 : w4.cell? ⟨P, 7, none⟩ = some (.slice ma mn mc) := HK.blk_cell hpb 7
  clear hw4 hP hB34 hpb hxb hyb hs hxs hys hB4 hPX hPY hg4
  go_upto_region 3 with (go_at_call 11; (refine HG4.out.mono ?_; rintro e w5 ⟨v5, gs, rfl, hgd, hGs, hB5⟩; obtain ⟨ga, gc, rfl⟩ := goal_form hGs; have hlg : gs.length = na := (by rw [HNA.out, ← hgd, List.length_map]); rw [hlg] at hGs ⊢))
  have HGD := Lib.hid hgd
  have HGS := Lib.hid hGs
  have HGL := Lib.hid hlg
  have HBP_w5 := Lib.hid ((hB5.block _ (HK.blk_lt HPB.out)).trans HPB.out)
  have HBPX_w5 := Lib.hid ((hB5.block _ (HK.blk_lt HXBX.out)).trans HXBX.out)
  have HBPY_w5 := Lib.hid ((hB5.block _ (HK.blk_lt HYBX.out)).trans HYBX.out)
  have HSP_w5 := Lib.hid (HPS.out.up hB5)
  have HSPX_w5 := Lib.hid (HXS.out.up hB5)
  have HSPY_w5 := Lib.hid (HYS.out.up hB5)
  have HB5 := Lib.hid (below_then HB4.out hB5)
  clear p0 p1 p2 p3 p4 p5 p6 p7 hgd hGs hlg hB5
  by_cases hna2 : na < 2
  · have z1 : (na : Int) < 2 := by omega
    go_wp2_with (go_at_call 14; (refine (haw _).mono ?_; rintro e w15 ⟨rfl, hB15⟩))
    go_ret
    exact ⟨rfl, below_then HB5.out hB15⟩
  · obtain ⟨i, hi⟩ : ∃ i, i = n3 % na := ⟨_, rfl⟩
    obtain ⟨r, hr⟩ : ∃ r, r = n4 % (na - 1) := ⟨_, rfl⟩
    obtain ⟨k, hk⟩ : ∃ k, k = (i + 1 + r) % na := ⟨_, rfl⟩
    have hin : i < na := by rw [hi]; exact Nat.mod_lt _ (by omega)
    have hrn : r < na - 1 := by rw [hr]; exact Nat.mod_lt _ (by omega)
    have hkk := other_goal hin hrn
    rw [← hk] at hkk
    obtain ⟨i1, hi1⟩ : ∃ i1, i1 = i + 1 := ⟨_, rfl⟩
    obtain ⟨n1', hn1'⟩ : ∃ n1', n1' = na - 1 := ⟨_, rfl⟩
    obtain ⟨s1, hs1⟩ : ∃ s1, s1 = i1 + r := ⟨_, rfl⟩
    have z0 : ¬ (na : Int) < 2 := by omega
    have z1 : IntKind.i64.wrap (n3 : Int) = (n3 : Int) := IntWalk.i64_in _ (by omega)
    have z2 : (n3 : Int) % (na : Int) = (i : Int) := by rw [hi, Int.natCast_emod]
    have z3 : (n3 : Int).tmod (na : Int) = (i : Int) := by rw [Int.tmod_eq_emod_of_nonneg (by omega)]; exact z2
    have z4 : ((na : Int) == 0) = false := by simp; omega
    have z5 : ¬ (na : Int) = 0 := by omega
    have z6 : (i : Int) + 1 = (i1 : Int) := by omega
    have z7 : IntKind.i64.wrap (n4 : Int) = (n4 : Int) := IntWalk.i64_in _ (by omega)
    have z8 : (na : Int) - 1 = (n1' : Int) := by omega
    have z9 : (n4 : Int) % (n1' : Int) = (r : Int) := by rw [hr, hn1', Int.natCast_emod]
    have zy0 : (n4 : Int).tmod (n1' : Int) = (r : Int) := by rw [Int.tmod_eq_emod_of_nonneg (by omega)]; exact z9
    have zy1 : ((n1' : Int) == 0) = false := by simp; omega
    have zy2 : ¬ (n1' : Int) = 0 := by omega
    have zy3 : (i1 : Int) + (r : Int) = (s1 : Int) := by omega
    have zy4 : (s1 : Int) % (na : Int) = (k : Int) := by rw [hk, hs1, hi1, Int.natCast_emod]
    have zy5 : (s1 : Int).tmod (na : Int) = (k : Int) := by rw [Int.tmod_eq_emod_of_nonneg (by omega)]; exact zy4
    have zy6 : i1 ≤ 300 := by omega
    have zy7 : s1 ≤ 600 := by omega
    have zy8 : n1' ≤ 300 := by omega
    have zy9 : (0 : Int) < (na : Int) := by omega
    have zx1 : (0 : Int) < (n1' : Int) := by omega
    clear hi hr hk hi1 hn1' hs1
    obtain ⟨xa, hxa⟩ : ∃ xa, gs[i]? = some xa := ⟨_, List.getElem?_eq_getElem (by rw [HGL.out]; exact hin)⟩
    obtain ⟨xk, hxk⟩ : ∃ xk, gs[k]? = some xk := ⟨_, List.getElem?_eq_getElem (by rw [HGL.out]; exact hkk.1)⟩
    obtain ⟨g, cap, hv, c0, _⟩ := goal_at HGS.out hxa
    simp only [Value.slice.injEq] at hv
    obtain ⟨hv0, hv1, hv2⟩ := hv
    subst hv0
    clear hv1 hv2
    obtain ⟨g', cap', hv, e0, _⟩ := goal_at HGS.out hxk
    simp only [Value.slice.injEq, Option.some.injEq, Addr.mk.injEq] at hv
    obtain ⟨⟨hv0, _⟩, hv1, hv2⟩ := hv
    rw [← hv0] at e0
    clear hv0 hv1 hv2
    have cpa := HGS.out.2 xa (List.mem_of_getElem? hxa)
    have cpk := HGS.out.2 xk (List.mem_of_getElem? hxk)
    have hda : (goalsB L0)[i]? = some xa.d := by rw [← HGD.out, List.getElem?_map, hxa]; rfl
    have hdk : (goalsB L0)[k]? = some xk.d := by rw [← HGD.out, List.getElem?_map, hxk]; rfl
    have hlaw := apart_law hda hdk (Ne.symm hkk.2) x0 y0 (by rw [HXB.out]; exact built_fit L1) (by rw [HYB.out]; exact built_fit L2)
    have hla := (goalsB_mem (List.mem_of_getElem? hda)).2.2
    have hlk := (goalsB_mem (List.mem_of_getElem? hdk)).2.2
    rw [← HTB.out] at hlaw
    have hmt : measT t0 = true := by rw [HTB.out]; exact built_meas L0
    obtain ⟨⟨pl1, wt1, TT1⟩, ⟨pa1, pn1, pc1⟩, xsv1⟩ := xa
    obtain ⟨⟨pl2, wt2, TT2⟩, ⟨pa2, pn2, pc2⟩, xsv2⟩ := xk
    simp only [SL.v] at c0 e0 cpa cpk hlaw hla hlk
    have HLAW := Lib.hid hlaw
    have HCA := Lib.hid cpa
    have HCK := Lib.hid cpk
    have HKK := Lib.hid hkk
    have hkn : k < na := hkk.1
    have zk0 : (0 : Int) ≤ (k : Int) := by omega
    have zk1 : (k : Int) < (na : Int) := by omega
    have zi0 : (0 : Int) ≤ (i : Int) := by omega
    have zi1 : (i : Int) < (na : Int) := by omega
    have HIA_w5 := Lib.hid cpa.isI
    have HIK_w5 := Lib.hid cpk.isI
    have HLA := Lib.hid hla
    have HLK := Lib.hid hlk
    have HW5_w5 := Lib.hid (Below.refl w5.heap.size w5)
    have hpx : plainT x0 := by rw [HXB.out]; exact built_plain L1
    have hpy : plainT y0 := by rw [HYB.out]; exact built_plain L2
    have hpt : plainT t0 := by rw [HTB.out]; exact built_plain L0
    have hzx : sizeT x0 ≤ 181 := by rw [HXB.out]; exact built_size2 L1
    have hzy : sizeT y0 ≤ 181 := by rw [HYB.out]; exact built_size2 L2
    have hzt : sizeT t0 ≤ 181 := by rw [HTB.out]; exact built_size2 L0
    have hta : ∀ sv : SL, t0.arr sv = #[.string rule, .int .u8 op, .string name, .slice aa an ac, .slice fa fn fc, .int .i64 label, .slice sv.a sv.n sv.c, .slice ma mn mc] := fun sv => by rw [HT.out]; rfl
    have hts : t0.subs = subs := by rw [HT.out]; rfl
    have hxa2 : ∀ sv : SL, x0.arr sv = #[.string xr, .int .u8 xo, .string xm, .slice ba bn bc, .slice da dn dc, .int .i64 xl, .slice sv.a sv.n sv.c, .slice ea en ec] := fun sv => by rw [HX.out]; rfl
    have hxs2 : x0.subs = xs := by rw [HX.out]; rfl
    have hya2 : ∀ sv : SL, y0.arr sv = #[.string yr, .int .u8 yo, .string ym, .slice ia i2 ic, .slice ja jn jc, .int .i64 yl, .slice sv.a sv.n sv.c, .slice ka kn kc] := fun sv => by rw [HY.out]; rfl
    have hys2 : y0.subs = ys := by rw [HY.out]; rfl
    obtain ⟨⟨cd1, ⟨r1, ⟨ro1, rm1, ⟨ra1, rb1, rd1⟩, ⟨re1, rf1, rg1⟩, rl1, ⟨rh1, ri1, rj1⟩⟩, rs1⟩⟩, hR1⟩ : ∃ R, R = withR t0 x0 (natI pl1) := ⟨_, rfl⟩
    have hw1 := fun (W : World) (hB : Below w5.heap.size w5 W) => with_new W t0 x0 ⟨sa, sn, sc⟩ ⟨ta, tn, tc⟩ ⟨pa1, pn1, pc1⟩ (natI pl1) (by rw [hts]; exact HSP_w5.out.up hB) (by rw [hxs2]; exact HSPX_w5.out.up hB) (HCA.out.isI.below hB) (by simp only [natI, List.length_map]; omega) (by omega) (by omega) hpt hpx
    unfold RetWq at hw1
    simp only [← hR1] at hw1
    simp only [hta, hxa2] at hw1
    simp only [PT.arr, PT.rule, PT.o, PT.subs, SL.v] at hw1
    have HW1 := Lib.hid hw1
    have HR1 := Lib.hid hR1
    clear hw1 hR1 hxa hxk hda hdk hlaw cpa cpk hkk hla hlk
    go_upto_region 9 with (fail)
    go_cut [18, 19] from 71 to 81 (fun v c wx => ∃ (D : Nat) (qa1 : Option Addr) (qn1 qc1 : Nat), v = .pointer (some ⟨D, 0, none⟩) ∧ c = .int .i64 (cd1 : Nat) ∧ wx.heap[D]? = some (.cells #[.string r1, .int .u8 ro1, .string rm1, .slice ra1 rb1 rd1, .slice re1 rf1 rg1, .int .i64 rl1, .slice qa1 qn1 qc1, .slice rh1 ri1 rj1] 30 (0, 0)) ∧ IsPs wx.heap.size wx ⟨qa1, qn1, qc1⟩ rs1 ∧ Below w5.heap.size w5 wx)
    case first =>
      have v00 : w5.cell? ⟨P, 0, none⟩ = some (.string rule) := HK.blk_cell HBP_w5.out 0
      have v01 : w5.cell? ⟨P, 1, none⟩ = some (.int .u8 op) := HK.blk_cell HBP_w5.out 1
      have v02 : w5.cell? ⟨P, 2, none⟩ = some (.string name) := HK.blk_cell HBP_w5.out 2
      have v03 : w5.cell? ⟨P, 3, none⟩ = some (.slice aa an ac) := HK.blk_cell HBP_w5.out 3
      have v04 : w5.cell? ⟨P, 4, none⟩ = some (.slice fa fn fc) := HK.blk_cell HBP_w5.out 4
      have v05 : w5.cell? ⟨P, 5, none⟩ = some (.int .i64 label) := HK.blk_cell HBP_w5.out 5
      have v06 : w5.cell? ⟨P, 6, none⟩ = some (.slice sa sn sc) := HK.blk_cell HBP_w5.out 6
      have v07 : w5.cell? ⟨P, 7, none⟩ = some (.slice ma mn mc) := HK.blk_cell HBP_w5.out 7
      have v10 : w5.cell? ⟨PX, 0, none⟩ = some (.string xr) := HK.blk_cell HBPX_w5.out 0
      have v11 : w5.cell? ⟨PX, 1, none⟩ = some (.int .u8 xo) := HK.blk_cell HBPX_w5.out 1
      have v12 : w5.cell? ⟨PX, 2, none⟩ = some (.string xm) := HK.blk_cell HBPX_w5.out 2
      have v13 : w5.cell? ⟨PX, 3, none⟩ = some (.slice ba bn bc) := HK.blk_cell HBPX_w5.out 3
      have v14 : w5.cell? ⟨PX, 4, none⟩ = some (.slice da dn dc) := HK.blk_cell HBPX_w5.out 4
      have v15 : w5.cell? ⟨PX, 5, none⟩ = some (.int .i64 xl) := HK.blk_cell HBPX_w5.out 5
      have v16 : w5.cell? ⟨PX, 6, none⟩ = some (.slice ta tn tc) := HK.blk_cell HBPX_w5.out 6
      have v17 : w5.cell? ⟨PX, 7, none⟩ = some (.slice ea en ec) := HK.blk_cell HBPX_w5.out 7
      refine Go.RE.wp_region_each [72, 73, 74, 75, 76, 77, 78, 79, 71, 80, 81, 18, 19] (fun L x W => (Below w5.heap.size w5 W) ∧ (L 0 = true → x 72 = .agg #[.string rule, .int .u8 op, .string name, .slice aa an ac, .slice fa fn fc, .int .i64 label, .slice sa sn sc, .slice ma mn mc]) ∧ (L 1 = true → x 73 = .slice (some ⟨g, 0, none⟩) na gc) ∧ (L 2 = true → x 74 = .int .i64 i) ∧ (L 3 = true → x 75 = .pointer (some ⟨g, i * 2, none⟩)) ∧ (L 4 = true → x 76 = .pointer (some ⟨g, i * 2, none⟩)) ∧ (L 5 = true → x 77 = .slice pa1 pn1 pc1) ∧ (L 6 = true → x 78 = .agg #[.string xr, .int .u8 xo, .string xm, .slice ba bn bc, .slice da dn dc, .int .i64 xl, .slice ta tn tc, .slice ea en ec]) ∧ (L 7 = true → ∃ (q : SL) (lo hi : Nat), x 79 = .tuple #[.agg #[.string r1, .int .u8 ro1, .string rm1, .slice ra1 rb1 rd1, .slice re1 rf1 rg1, .int .i64 rl1, .slice q.a q.n q.c, .slice rh1 ri1 rj1], .int .i64 (cd1 : Nat)] ∧ hi ≤ W.heap.size ∧ IsPq (fun kk => lo ≤ kk ∧ kk < hi) W q rs1 ∧ (L 11 = true → ∀ B, x 18 = .pointer (some ⟨B, 0, none⟩) → B < lo ∨ hi ≤ B)) ∧ (L 8 = true → L 7 = true ∧ ∃ q : SL, x 71 = .tuple #[.agg #[.string r1, .int .u8 ro1, .string rm1, .slice ra1 rb1 rd1, .slice re1 rf1 rg1, .int .i64 rl1, .slice q.a q.n q.c, .slice rh1 ri1 rj1], .int .i64 (cd1 : Nat)] ∧ x 79 = x 71) ∧ (L 9 = true → L 7 = true ∧ ∃ q : SL, x 80 = .agg #[.string r1, .int .u8 ro1, .string rm1, .slice ra1 rb1 rd1, .slice re1 rf1 rg1, .int .i64 rl1, .slice q.a q.n q.c, .slice rh1 ri1 rj1] ∧ x 79 = .tuple #[.agg #[.string r1, .int .u8 ro1, .string rm1, .slice ra1 rb1 rd1, .slice re1 rf1 rg1, .int .i64 rl1, .slice q.a q.n q.c, .slice rh1 ri1 rj1], .int .i64 (cd1 : Nat)]) ∧ (L 10 = true → x 81 = .int .i64 (cd1 : Nat)) ∧ (L 11 = true → ∃ B z0 z1 z2 z3 z4 z5 z6 z7, x 18 = .pointer (some ⟨B, 0, none⟩) ∧ w5.heap.size ≤ B ∧ W.heap[B]? = some (.cells #[z0, z1, z2, z3, z4, z5, z6, z7] 30 (0, 0))) ∧ (L 12 = true → L 7 = true ∧ L 11 = true ∧ ∃ (q : SL) (B : Nat), x 18 = .pointer (some ⟨B, 0, none⟩) ∧ W.heap[B]? = some (.cells #[.string r1, .int .u8 ro1, .string rm1, .slice ra1 rb1 rd1, .slice re1 rf1 rg1, .int .i64 rl1, .slice q.a q.n q.c, .slice rh1 ri1 rj1] 30 (0, 0)) ∧ IsPs W.heap.size W q rs1) ∧ (L 13 = true → x 19 = .int .i64 (cd1 : Nat))) (by kernel_rfl) (by kernel_rfl) (by kernel_rfl) ?_ ((Go.RE.Each.cons ?_ (Go.RE.Each.cons ?_ (Go.RE.Each.cons ?_ (Go.RE.Each.cons ?_ (Go.RE.Each.cons ?_ (Go.RE.Each.cons ?_ (Go.RE.Each.cons ?_ (Go.RE.Each.cons ?_ (Go.RE.Each.cons ?_ (Go.RE.Each.cons ?_ (Go.RE.Each.cons ?_ (Go.RE.Each.cons ?_ (Go.RE.Each.cons ?_ (Go.RE.Each.cons ?_ Go.RE.Each.nil))))))))))))))) ?_
      · exact fun x => ⟨bl_dr (Below.refl _ w5), fun h => (by cases h), fun h => (by cases h), fun h => (by cases h), fun h => (by cases h), fun h => (by cases h), fun h => (by cases h), fun h => (by cases h), fun h => (by cases h), fun h => (by cases h), fun h => (by cases h), fun h => (by cases h), fun h => (by cases h), fun h => (by cases h), fun h => (by cases h)⟩
      · intro L x a w K hL hd hf hx hΦ hK
        obtain ⟨hI, f0, f1, f2, f3, f4, f5, f6, f7, f8, f9, f10, f11, f12, f13⟩ := hΦ
        have e11 : a.tmps[11]? = some (.pointer (some ⟨P, 0, none⟩)) := hf 11 (of_decide_eq_true (by kernel_rfl))
        clear hf hx hd
        have w0 := cell_then v00 hI
        have w1 := cell_then v01 hI
        have w2 := cell_then v02 hI
        have w3 := cell_then v03 hI
        have w4 := cell_then v04 hI
        have w5 := cell_then v05 hI
        have w6 := cell_then v06 hI
        have w7 := cell_then v07 hI
        go_simp
        refine hK _ _ ?_
        exact ⟨hI, fun _ => rfl, fun h => f1 h, fun h => f2 h, fun h => f3 h, fun h => f4 h, fun h => f5 h, fun h => f6 h, fun h => f7 h, fun h => f8 h, fun h => f9 h, fun h => f10 h, fun h => f11 h, fun h => f12 h, fun h => f13 h⟩
      · intro L x a w K hL hd hf hx hΦ hK
        obtain ⟨hI, f0, f1, f2, f3, f4, f5, f6, f7, f8, f9, f10, f11, f12, f13⟩ := hΦ
        have e14 : a.tmps[14]? = some (.slice (some ⟨g, 0, none⟩) na gc) := hf 14 (of_decide_eq_true (by kernel_rfl))
        clear hf hx hd
        go_simp
        refine hK _ _ ?_
        exact ⟨hI, fun h => f0 h, fun _ => rfl, fun h => f2 h, fun h => f3 h, fun h => f4 h, fun h => f5 h, fun h => f6 h, fun h => f7 h, fun h => f8 h, fun h => f9 h, fun h => f10 h, fun h => f11 h, fun h => f12 h, fun h => f13 h⟩
      · intro L x a w K hL hd hf hx hΦ hK
        obtain ⟨hI, f0, f1, f2, f3, f4, f5, f6, f7, f8, f9, f10, f11, f12, f13⟩ := hΦ
        have e16 : a.tmps[16]? = some (.int .i64 i) := hf 16 (of_decide_eq_true (by kernel_rfl))
        clear hf hx hd
        go_simp
        refine hK _ _ ?_
        exact ⟨hI, fun h => f0 h, fun h => f1 h, fun _ => rfl, fun h => f3 h, fun h => f4 h, fun h => f5 h, fun h => f6 h, fun h => f7 h, fun h => f8 h, fun h => f9 h, fun h => f10 h, fun h => f11 h, fun h => f12 h, fun h => f13 h⟩
      · intro L x a w K hL hd hf hx hΦ hK
        obtain ⟨hI, f0, f1, f2, f3, f4, f5, f6, f7, f8, f9, f10, f11, f12, f13⟩ := hΦ
        have d1 := f1 (hd 1 (by kernel_rfl))
        have e73 : a.tmps[73]? = some (x 73) := hx 1 _ 73 rfl rfl (hd 1 (by kernel_rfl))
        have d2 := f2 (hd 2 (by kernel_rfl))
        have e74 : a.tmps[74]? = some (x 74) := hx 2 _ 74 rfl rfl (hd 2 (by kernel_rfl))
        clear hf hx hd
        rw [d1] at e73
        rw [d2] at e74
        go_simp
        refine hK _ _ ?_
        exact ⟨hI, fun h => f0 h, fun h => f1 h, fun h => f2 h, fun _ => rfl, fun h => f4 h, fun h => f5 h, fun h => f6 h, fun h => f7 h, fun h => f8 h, fun h => f9 h, fun h => f10 h, fun h => f11 h, fun h => f12 h, fun h => f13 h⟩
      · intro L x a w K hL hd hf hx hΦ hK
        obtain ⟨hI, f0, f1, f2, f3, f4, f5, f6, f7, f8, f9, f10, f11, f12, f13⟩ := hΦ
        have d3 := f3 (hd 3 (by kernel_rfl))
        have e75 : a.tmps[75]? = some (x 75) := hx 3 _ 75 rfl rfl (hd 3 (by kernel_rfl))
        clear hf hx hd
        rw [d3] at e75
        go_simp
        refine hK _ _ ?_
        exact ⟨hI, fun h => f0 h, fun h => f1 h, fun h => f2 h, fun h => f3 h, fun _ => rfl, fun h => f5 h, fun h => f6 h, fun h => f7 h, fun h => f8 h, fun h => f9 h, fun h => f10 h, fun h => f11 h, fun h => f12 h, fun h => f13 h⟩
      · intro L x a w K hL hd hf hx hΦ hK
        obtain ⟨hI, f0, f1, f2, f3, f4, f5, f6, f7, f8, f9, f10, f11, f12, f13⟩ := hΦ
        have d4 := f4 (hd 4 (by kernel_rfl))
        have e76 : a.tmps[76]? = some (x 76) := hx 4 _ 76 rfl rfl (hd 4 (by kernel_rfl))
        clear hf hx hd
        rw [d4] at e76
        have wg := cell_then c0 hI
        go_simp
        refine hK _ _ ?_
        exact ⟨hI, fun h => f0 h, fun h => f1 h, fun h => f2 h, fun h => f3 h, fun h => f4 h, fun _ => rfl, fun h => f6 h, fun h => f7 h, fun h => f8 h, fun h => f9 h, fun h => f10 h, fun h => f11 h, fun h => f12 h, fun h => f13 h⟩
      · intro L x a w K hL hd hf hx hΦ hK
        obtain ⟨hI, f0, f1, f2, f3, f4, f5, f6, f7, f8, f9, f10, f11, f12, f13⟩ := hΦ
        have e12 : a.tmps[12]? = some (.pointer (some ⟨PX, 0, none⟩)) := hf 12 (of_decide_eq_true (by kernel_rfl))
        clear hf hx hd
        have w0 := cell_then v10 hI
        have w1 := cell_then v11 hI
        have w2 := cell_then v12 hI
        have w3 := cell_then v13 hI
        have w4 := cell_then v14 hI
        have w5 := cell_then v15 hI
        have w6 := cell_then v16 hI
        have w7 := cell_then v17 hI
        go_simp
        refine hK _ _ ?_
        exact ⟨hI, fun h => f0 h, fun h => f1 h, fun h => f2 h, fun h => f3 h, fun h => f4 h, fun h => f5 h, fun _ => rfl, fun h => f7 h, fun h => f8 h, fun h => f9 h, fun h => f10 h, fun h => f11 h, fun h => f12 h, fun h => f13 h⟩
      · intro L x a w K hL hd hf hx hΦ hK
        obtain ⟨hI, f0, f1, f2, f3, f4, f5, f6, f7, f8, f9, f10, f11, f12, f13⟩ := hΦ
        have d0 := f0 (hd 0 (by kernel_rfl))
        have e72 : a.tmps[72]? = some (x 72) := hx 0 _ 72 rfl rfl (hd 0 (by kernel_rfl))
        have d5 := f5 (hd 5 (by kernel_rfl))
        have e77 : a.tmps[77]? = some (x 77) := hx 5 _ 77 rfl rfl (hd 5 (by kernel_rfl))
        have d6 := f6 (hd 6 (by kernel_rfl))
        have e78 : a.tmps[78]? = some (x 78) := hx 6 _ 78 rfl rfl (hd 6 (by kernel_rfl))
        clear hf hx hd
        rw [d0] at e72
        rw [d5] at e77
        rw [d6] at e78
        go_simp
        go_at_call 24
        with_reducible refine (HW1.out _ hI).mono ?_
        rintro e w' ⟨q, rfl, hq8, hB8⟩
        simp only
        refine hK _ _ ?_
        exact ⟨below_then hI hB8, fun h => f0 h, fun h => f1 h, fun h => f2 h, fun h => f3 h, fun h => f4 h, fun h => f5 h, fun h => f6 h, fun _ => ⟨q, w.heap.size, w'.heap.size, rfl, Nat.le_refl _, hq8, fun h B hB => by obtain ⟨B', z0, z1, z2, z3, z4, z5, z6, z7, h1, h2, h3⟩ := f11 h; cases h1.symm.trans hB; exact .inl (HK.blk_lt h3)⟩, fun h => absurd (f8 h).1 (by rw [hL]; decide), fun h => absurd (f9 h).1 (by rw [hL]; decide), fun h => f10 h, fun h => box_up hB8 (f11 h), fun h => absurd (f12 h).1 (by rw [hL]; decide), fun h => f13 h⟩
      · intro L x a w K hL hd hf hx hΦ hK
        obtain ⟨hI, f0, f1, f2, f3, f4, f5, f6, f7, f8, f9, f10, f11, f12, f13⟩ := hΦ
        have d7 := f7 (hd 7 (by kernel_rfl))
        have e79 : a.tmps[79]? = some (x 79) := hx 7 _ 79 rfl rfl (hd 7 (by kernel_rfl))
        have lc := hd 7 (by kernel_rfl)
        clear hf hx hd
        obtain ⟨q, lo, hi, hq, _⟩ := d7
        have hCA := hq
        rw [hq] at e79
        go_simp
        refine hK _ _ ?_
        exact ⟨hI, fun h => f0 h, fun h => f1 h, fun h => f2 h, fun h => f3 h, fun h => f4 h, fun h => f5 h, fun h => f6 h, fun h => f7 h, fun _ => ⟨lc, q, rfl, hCA⟩, fun h => f9 h, fun h => f10 h, fun h => f11 h, fun h => f12 h, fun h => f13 h⟩
      · intro L x a w K hL hd hf hx hΦ hK
        obtain ⟨hI, f0, f1, f2, f3, f4, f5, f6, f7, f8, f9, f10, f11, f12, f13⟩ := hΦ
        have d8 := f8 (hd 8 (by kernel_rfl))
        have e71 : a.tmps[71]? = some (x 71) := hx 8 _ 71 rfl rfl (hd 8 (by kernel_rfl))
        clear hf hx hd
        obtain ⟨lc, q, hq, hq2⟩ := d8
        have hq3 := hq2.trans hq
        rw [hq] at e71
        go_simp
        refine hK _ _ ?_
        exact ⟨hI, fun h => f0 h, fun h => f1 h, fun h => f2 h, fun h => f3 h, fun h => f4 h, fun h => f5 h, fun h => f6 h, fun h => f7 h, fun h => f8 h, fun _ => ⟨lc, q, rfl, hq3⟩, fun h => f10 h, fun h => f11 h, fun h => f12 h, fun h => f13 h⟩
      · intro L x a w K hL hd hf hx hΦ hK
        obtain ⟨hI, f0, f1, f2, f3, f4, f5, f6, f7, f8, f9, f10, f11, f12, f13⟩ := hΦ
        have d8 := f8 (hd 8 (by kernel_rfl))
        have e71 : a.tmps[71]? = some (x 71) := hx 8 _ 71 rfl rfl (hd 8 (by kernel_rfl))
        clear hf hx hd
        obtain ⟨lc, q, hq, hq2⟩ := d8
        rw [hq] at e71
        go_simp
        refine hK _ _ ?_
        exact ⟨hI, fun h => f0 h, fun h => f1 h, fun h => f2 h, fun h => f3 h, fun h => f4 h, fun h => f5 h, fun h => f6 h, fun h => f7 h, fun h => f8 h, fun h => f9 h, fun _ => rfl, fun h => f11 h, fun h => f12 h, fun h => f13 h⟩
      · intro L x a w K hL hd hf hx hΦ hK
        obtain ⟨hI, f0, f1, f2, f3, f4, f5, f6, f7, f8, f9, f10, f11, f12, f13⟩ := hΦ
        clear hf hx hd
        go_simp
        refine hK _ _ ?_
        exact ⟨bl_al hI, fun h => f0 h, fun h => f1 h, fun h => f2 h, fun h => f3 h, fun h => f4 h, fun h => f5 h, fun h => f6 h, fun h => (f7 h).imp fun q h => h.imp fun lo h => h.imp fun hi h => ⟨h.1, Nat.le_trans h.2.1 (((Below.refl _ w).alloc (Nat.le_refl _) _)).size, h.2.2.1.turn fun b hb => ⟨hb, (((Below.refl _ w).alloc (Nat.le_refl _) _)).block b (by have := hb.2; have := h.2.1; omega)⟩, fun _ B hB => by cases hB; exact .inr h.2.1⟩, fun h => f8 h, fun h => f9 h, fun h => f10 h, fun _ => ⟨_, _, _, _, _, _, _, _, _, rfl, hI.size, HK.blk_new _ _⟩, fun h => absurd (f12 h).2.1 (by rw [hL]; decide), fun h => f13 h⟩
      · intro L x a w K hL hd hf hx hΦ hK
        obtain ⟨hI, f0, f1, f2, f3, f4, f5, f6, f7, f8, f9, f10, f11, f12, f13⟩ := hΦ
        have d9 := f9 (hd 9 (by kernel_rfl))
        have e80 : a.tmps[80]? = some (x 80) := hx 9 _ 80 rfl rfl (hd 9 (by kernel_rfl))
        have d11 := f11 (hd 11 (by kernel_rfl))
        have e18 : a.tmps[18]? = some (x 18) := hx 11 _ 18 rfl rfl (hd 11 (by kernel_rfl))
        have d7 := f7 (hd 7 (by kernel_rfl))
        have lc := hd 7 (by kernel_rfl)
        have la := hd 11 (by kernel_rfl)
        clear hf hx hd
        obtain ⟨lc2, q, hq, hq2⟩ := d9
        obtain ⟨B, z0, z1, z2, z3, z4, z5, z6, z7, hb, hBl, hbx⟩ := d11
        obtain ⟨q', lo, hi, hq3, hhi, hpq, hap⟩ := d7
        have hqq : q' = q := by
          have h9 := hq3.symm.trans hq2
          obtain ⟨a1, a2, a3⟩ := q
          obtain ⟨b1, b2, b3⟩ := q'
          simpa using h9
        subst hqq
        have hap := hap la B hb
        rw [hq] at e80
        rw [hb] at e18
        have c0 := HK.blk_cell hbx 0
        have c1 := HK.blk_cell hbx 1
        have c2 := HK.blk_cell hbx 2
        have c3 := HK.blk_cell hbx 3
        have c4 := HK.blk_cell hbx 4
        have c5 := HK.blk_cell hbx 5
        have c6 := HK.blk_cell hbx 6
        have c7 := HK.blk_cell hbx 7
        have cf := fun i => HK.blk_frozen hbx i
        go_simp
        have hF := set8_frm w B (.string r1) (.int .u8 ro1) (.string rm1) (.slice ra1 rb1 rd1) (.slice re1 rf1 rg1) (.int .i64 rl1) (.slice q'.a q'.n q'.c) (.slice rh1 ri1 rj1)
        have hzF := hF.size
        refine hK undef _ ?_
        exact ⟨below_set8 hI hBl rfl, fun h => f0 h, fun h => f1 h, fun h => f2 h, fun h => f3 h, fun h => f4 h, fun h => f5 h, fun h => f6 h, fun h => ⟨q', lo, hi, hq3, Nat.le_trans hhi hzF, hpq.turn fun b hb9 => ⟨hb9, hF.block b (Nat.lt_of_lt_of_le hb9.2 hhi) (by rcases hap with h | h <;> omega)⟩, fun _ B' hB' => by cases hB'.symm.trans hb; exact hap⟩, fun h => f8 h, fun h => f9 h, fun h => f10 h, fun h => ⟨B, _, _, _, _, _, _, _, _, hb, hBl, set8 hbx _ _ _ _ _ _ _ _⟩, fun _ => ⟨lc, la, q', B, hb, set8 hbx _ _ _ _ _ _ _ _, (hpq.turn (T := fun b => b < _) fun b hb9 => ⟨Nat.lt_of_lt_of_le hb9.2 (Nat.le_trans hhi hzF), hF.block b (Nat.lt_of_lt_of_le hb9.2 hhi) (by rcases hap with h | h <;> omega)⟩).ps fun b hb9 => hb9⟩, fun h => f13 h⟩
      · intro L x a w K hL hd hf hx hΦ hK
        obtain ⟨hI, f0, f1, f2, f3, f4, f5, f6, f7, f8, f9, f10, f11, f12, f13⟩ := hΦ
        have d10 := f10 (hd 10 (by kernel_rfl))
        have e81 : a.tmps[81]? = some (x 81) := hx 10 _ 81 rfl rfl (hd 10 (by kernel_rfl))
        clear hf hx hd
        rw [d10] at e81
        go_simp
        refine hK _ _ ?_
        exact ⟨hI, fun h => f0 h, fun h => f1 h, fun h => f2 h, fun h => f3 h, fun h => f4 h, fun h => f5 h, fun h => f6 h, fun h => f7 h, fun h => f8 h, fun h => f9 h, fun h => f10 h, fun h => f11 h, fun h => f12 h, fun _ => rfl⟩
      · rintro x W ⟨hI, f0, f1, f2, f3, f4, f5, f6, f7, f8, f9, f10, f11, f12, f13⟩
        obtain ⟨_, _, ⟨qa, qn, qc⟩, B, hb, hbx, hps⟩ := f12 (by kernel_rfl)
        have hout := f13 (by kernel_rfl)
        simp only [Exit.then]
        go_step
        go_meet
        case rel => exact ⟨B, qa, qn, qc, hb, hout, hbx, hps, hI⟩
    case rest =>
      obtain ⟨D1, qa1, qn1, qc1, rfl, rfl, hnew, hnps, hBn⟩ := hcut
      obtain ⟨w6, rfl⟩ : ∃ w6 : World, w6 = wc := ⟨_, rfl⟩
      have HBP_w6 := Lib.hid ((hBn.block _ (HK.blk_lt HBP_w5.out)).trans HBP_w5.out)
      have HBPX_w6 := Lib.hid ((hBn.block _ (HK.blk_lt HBPX_w5.out)).trans HBPX_w5.out)
      have HBPY_w6 := Lib.hid ((hBn.block _ (HK.blk_lt HBPY_w5.out)).trans HBPY_w5.out)
      have HSP_w6 := Lib.hid (HSP_w5.out.up hBn)
      have HSPX_w6 := Lib.hid (HSPX_w5.out.up hBn)
      have HSPY_w6 := Lib.hid (HSPY_w5.out.up hBn)
      have HBD1_w6 := Lib.hid hnew
      have HSD1_w6 := Lib.hid hnps
      have HIA_w6 := Lib.hid (HIA_w5.out.below hBn)
      have HIK_w6 := Lib.hid (HIK_w5.out.below hBn)
      have HW5_w6 := Lib.hid (below_then HW5_w5.out hBn)
      replace c0 := cell_then c0 hBn
      replace e0 := cell_then e0 hBn
      clear hnew hnps hBn
      obtain ⟨⟨cd2, ⟨r2, ⟨ro2, rm2, ⟨ra2, rb2, rd2⟩, ⟨re2, rf2, rg2⟩, rl2, ⟨rh2, ri2, rj2⟩⟩, rs2⟩⟩, hR2⟩ : ∃ R, R = withR t0 y0 (natI pl2) := ⟨_, rfl⟩
      have hw2 := fun (W : World) (hB : Below w6.heap.size w6 W) => with_new W t0 y0 ⟨sa, sn, sc⟩ ⟨ua, un, uc⟩ ⟨pa2, pn2, pc2⟩ (natI pl2) (by rw [hts]; exact HSP_w6.out.up hB) (by rw [hys2]; exact HSPY_w6.out.up hB) (HIK_w6.out.below hB) (by simp only [natI, List.length_map]; have := HLK.out; omega) (by omega) (by omega) hpt hpy
      unfold RetWq at hw2
      simp only [← hR2] at hw2
      simp only [hta, hya2] at hw2
      simp only [PT.arr, PT.rule, PT.o, PT.subs, SL.v] at hw2
      have HW2 := Lib.hid hw2
      have HR2 := Lib.hid hR2
      clear hw2 hR2
      go_upto_region 10 with (fail)
      go_cut [20, 21] from 82 to 92 (fun v c wx => ∃ (D : Nat) (qa2 : Option Addr) (qn2 qc2 : Nat), v = .pointer (some ⟨D, 0, none⟩) ∧ c = .int .i64 (cd2 : Nat) ∧ wx.heap[D]? = some (.cells #[.string r2, .int .u8 ro2, .string rm2, .slice ra2 rb2 rd2, .slice re2 rf2 rg2, .int .i64 rl2, .slice qa2 qn2 qc2, .slice rh2 ri2 rj2] 30 (0, 0)) ∧ IsPs wx.heap.size wx ⟨qa2, qn2, qc2⟩ rs2 ∧ Below w6.heap.size w6 wx)
      case first =>
        have v00 : w6.cell? ⟨P, 0, none⟩ = some (.string rule) := HK.blk_cell HBP_w6.out 0
        have v01 : w6.cell? ⟨P, 1, none⟩ = some (.int .u8 op) := HK.blk_cell HBP_w6.out 1
        have v02 : w6.cell? ⟨P, 2, none⟩ = some (.string name) := HK.blk_cell HBP_w6.out 2
        have v03 : w6.cell? ⟨P, 3, none⟩ = some (.slice aa an ac) := HK.blk_cell HBP_w6.out 3
        have v04 : w6.cell? ⟨P, 4, none⟩ = some (.slice fa fn fc) := HK.blk_cell HBP_w6.out 4
        have v05 : w6.cell? ⟨P, 5, none⟩ = some (.int .i64 label) := HK.blk_cell HBP_w6.out 5
        have v06 : w6.cell? ⟨P, 6, none⟩ = some (.slice sa sn sc) := HK.blk_cell HBP_w6.out 6
        have v07 : w6.cell? ⟨P, 7, none⟩ = some (.slice ma mn mc) := HK.blk_cell HBP_w6.out 7
        have v10 : w6.cell? ⟨PY, 0, none⟩ = some (.string yr) := HK.blk_cell HBPY_w6.out 0
        have v11 : w6.cell? ⟨PY, 1, none⟩ = some (.int .u8 yo) := HK.blk_cell HBPY_w6.out 1
        have v12 : w6.cell? ⟨PY, 2, none⟩ = some (.string ym) := HK.blk_cell HBPY_w6.out 2
        have v13 : w6.cell? ⟨PY, 3, none⟩ = some (.slice ia i2 ic) := HK.blk_cell HBPY_w6.out 3
        have v14 : w6.cell? ⟨PY, 4, none⟩ = some (.slice ja jn jc) := HK.blk_cell HBPY_w6.out 4
        have v15 : w6.cell? ⟨PY, 5, none⟩ = some (.int .i64 yl) := HK.blk_cell HBPY_w6.out 5
        have v16 : w6.cell? ⟨PY, 6, none⟩ = some (.slice ua un uc) := HK.blk_cell HBPY_w6.out 6
        have v17 : w6.cell? ⟨PY, 7, none⟩ = some (.slice ka kn kc) := HK.blk_cell HBPY_w6.out 7
        refine Go.RE.wp_region_each [83, 84, 85, 86, 87, 88, 89, 90, 82, 91, 92, 20, 21] (fun L x W => (Below w6.heap.size w6 W) ∧ (L 0 = true → x 83 = .agg #[.string rule, .int .u8 op, .string name, .slice aa an ac, .slice fa fn fc, .int .i64 label, .slice sa sn sc, .slice ma mn mc]) ∧ (L 1 = true → x 84 = .slice (some ⟨g, 0, none⟩) na gc) ∧ (L 2 = true → x 85 = .int .i64 k) ∧ (L 3 = true → x 86 = .pointer (some ⟨g, k * 2, none⟩)) ∧ (L 4 = true → x 87 = .pointer (some ⟨g, k * 2, none⟩)) ∧ (L 5 = true → x 88 = .slice pa2 pn2 pc2) ∧ (L 6 = true → x 89 = .agg #[.string yr, .int .u8 yo, .string ym, .slice ia i2 ic, .slice ja jn jc, .int .i64 yl, .slice ua un uc, .slice ka kn kc]) ∧ (L 7 = true → ∃ (q : SL) (lo hi : Nat), x 90 = .tuple #[.agg #[.string r2, .int .u8 ro2, .string rm2, .slice ra2 rb2 rd2, .slice re2 rf2 rg2, .int .i64 rl2, .slice q.a q.n q.c, .slice rh2 ri2 rj2], .int .i64 (cd2 : Nat)] ∧ hi ≤ W.heap.size ∧ IsPq (fun kk => lo ≤ kk ∧ kk < hi) W q rs2 ∧ (L 11 = true → ∀ B, x 20 = .pointer (some ⟨B, 0, none⟩) → B < lo ∨ hi ≤ B)) ∧ (L 8 = true → L 7 = true ∧ ∃ q : SL, x 82 = .tuple #[.agg #[.string r2, .int .u8 ro2, .string rm2, .slice ra2 rb2 rd2, .slice re2 rf2 rg2, .int .i64 rl2, .slice q.a q.n q.c, .slice rh2 ri2 rj2], .int .i64 (cd2 : Nat)] ∧ x 90 = x 82) ∧ (L 9 = true → L 7 = true ∧ ∃ q : SL, x 91 = .agg #[.string r2, .int .u8 ro2, .string rm2, .slice ra2 rb2 rd2, .slice re2 rf2 rg2, .int .i64 rl2, .slice q.a q.n q.c, .slice rh2 ri2 rj2] ∧ x 90 = .tuple #[.agg #[.string r2, .int .u8 ro2, .string rm2, .slice ra2 rb2 rd2, .slice re2 rf2 rg2, .int .i64 rl2, .slice q.a q.n q.c, .slice rh2 ri2 rj2], .int .i64 (cd2 : Nat)]) ∧ (L 10 = true → x 92 = .int .i64 (cd2 : Nat)) ∧ (L 11 = true → ∃ B z0 z1 z2 z3 z4 z5 z6 z7, x 20 = .pointer (some ⟨B, 0, none⟩) ∧ w6.heap.size ≤ B ∧ W.heap[B]? = some (.cells #[z0, z1, z2, z3, z4, z5, z6, z7] 30 (0, 0))) ∧ (L 12 = true → L 7 = true ∧ L 11 = true ∧ ∃ (q : SL) (B : Nat), x 20 = .pointer (some ⟨B, 0, none⟩) ∧ W.heap[B]? = some (.cells #[.string r2, .int .u8 ro2, .string rm2, .slice ra2 rb2 rd2, .slice re2 rf2 rg2, .int .i64 rl2, .slice q.a q.n q.c, .slice rh2 ri2 rj2] 30 (0, 0)) ∧ IsPs W.heap.size W q rs2) ∧ (L 13 = true → x 21 = .int .i64 (cd2 : Nat))) (by kernel_rfl) (by kernel_rfl) (by kernel_rfl) ?_ ((Go.RE.Each.cons ?_ (Go.RE.Each.cons ?_ (Go.RE.Each.cons ?_ (Go.RE.Each.cons ?_ (Go.RE.Each.cons ?_ (Go.RE.Each.cons ?_ (Go.RE.Each.cons ?_ (Go.RE.Each.cons ?_ (Go.RE.Each.cons ?_ (Go.RE.Each.cons ?_ (Go.RE.Each.cons ?_ (Go.RE.Each.cons ?_ (Go.RE.Each.cons ?_ (Go.RE.Each.cons ?_ Go.RE.Each.nil))))))))))))))) ?_
        · exact fun x => ⟨bl_dr (Below.refl _ w6), fun h => (by cases h), fun h => (by cases h), fun h => (by cases h), fun h => (by cases h), fun h => (by cases h), fun h => (by cases h), fun h => (by cases h), fun h => (by cases h), fun h => (by cases h), fun h => (by cases h), fun h => (by cases h), fun h => (by cases h), fun h => (by cases h), fun h => (by cases h)⟩
        · intro L x a w K hL hd hf hx hΦ hK
          obtain ⟨hI, f0, f1, f2, f3, f4, f5, f6, f7, f8, f9, f10, f11, f12, f13⟩ := hΦ
          have e11 : a.tmps[11]? = some (.pointer (some ⟨P, 0, none⟩)) := hf 11 (of_decide_eq_true (by kernel_rfl))
          clear hf hx hd
          have w0 := cell_then v00 hI
          have w1 := cell_then v01 hI
          have w2 := cell_then v02 hI
          have w3 := cell_then v03 hI
          have w4 := cell_then v04 hI
          have w5 := cell_then v05 hI
          have w6 := cell_then v06 hI
          have w7 := cell_then v07 hI
          go_simp
          refine hK _ _ ?_
          exact ⟨hI, fun _ => rfl, fun h => f1 h, fun h => f2 h, fun h => f3 h, fun h => f4 h, fun h => f5 h, fun h => f6 h, fun h => f7 h, fun h => f8 h, fun h => f9 h, fun h => f10 h, fun h => f11 h, fun h => f12 h, fun h => f13 h⟩
        · intro L x a w K hL hd hf hx hΦ hK
          obtain ⟨hI, f0, f1, f2, f3, f4, f5, f6, f7, f8, f9, f10, f11, f12, f13⟩ := hΦ
          have e14 : a.tmps[14]? = some (.slice (some ⟨g, 0, none⟩) na gc) := hf 14 (of_decide_eq_true (by kernel_rfl))
          clear hf hx hd
          go_simp
          refine hK _ _ ?_
          exact ⟨hI, fun h => f0 h, fun _ => rfl, fun h => f2 h, fun h => f3 h, fun h => f4 h, fun h => f5 h, fun h => f6 h, fun h => f7 h, fun h => f8 h, fun h => f9 h, fun h => f10 h, fun h => f11 h, fun h => f12 h, fun h => f13 h⟩
        · intro L x a w K hL hd hf hx hΦ hK
          obtain ⟨hI, f0, f1, f2, f3, f4, f5, f6, f7, f8, f9, f10, f11, f12, f13⟩ := hΦ
          have e17 : a.tmps[17]? = some (.int .i64 k) := hf 17 (of_decide_eq_true (by kernel_rfl))
          clear hf hx hd
          go_simp
          refine hK _ _ ?_
          exact ⟨hI, fun h => f0 h, fun h => f1 h, fun _ => rfl, fun h => f3 h, fun h => f4 h, fun h => f5 h, fun h => f6 h, fun h => f7 h, fun h => f8 h, fun h => f9 h, fun h => f10 h, fun h => f11 h, fun h => f12 h, fun h => f13 h⟩
        · intro L x a w K hL hd hf hx hΦ hK
          obtain ⟨hI, f0, f1, f2, f3, f4, f5, f6, f7, f8, f9, f10, f11, f12, f13⟩ := hΦ
          have d1 := f1 (hd 1 (by kernel_rfl))
          have e84 : a.tmps[84]? = some (x 84) := hx 1 _ 84 rfl rfl (hd 1 (by kernel_rfl))
          have d2 := f2 (hd 2 (by kernel_rfl))
          have e85 : a.tmps[85]? = some (x 85) := hx 2 _ 85 rfl rfl (hd 2 (by kernel_rfl))
          clear hf hx hd
          rw [d1] at e84
          rw [d2] at e85
          go_simp
          refine hK _ _ ?_
          exact ⟨hI, fun h => f0 h, fun h => f1 h, fun h => f2 h, fun _ => rfl, fun h => f4 h, fun h => f5 h, fun h => f6 h, fun h => f7 h, fun h => f8 h, fun h => f9 h, fun h => f10 h, fun h => f11 h, fun h => f12 h, fun h => f13 h⟩
        · intro L x a w K hL hd hf hx hΦ hK
          obtain ⟨hI, f0, f1, f2, f3, f4, f5, f6, f7, f8, f9, f10, f11, f12, f13⟩ := hΦ
          have d3 := f3 (hd 3 (by kernel_rfl))
          have e86 : a.tmps[86]? = some (x 86) := hx 3 _ 86 rfl rfl (hd 3 (by kernel_rfl))
          clear hf hx hd
          rw [d3] at e86
          go_simp
          refine hK _ _ ?_
          exact ⟨hI, fun h => f0 h, fun h => f1 h, fun h => f2 h, fun h => f3 h, fun _ => rfl, fun h => f5 h, fun h => f6 h, fun h => f7 h, fun h => f8 h, fun h => f9 h, fun h => f10 h, fun h => f11 h, fun h => f12 h, fun h => f13 h⟩
        · intro L x a w K hL hd hf hx hΦ hK
          obtain ⟨hI, f0, f1, f2, f3, f4, f5, f6, f7, f8, f9, f10, f11, f12, f13⟩ := hΦ
          have d4 := f4 (hd 4 (by kernel_rfl))
          have e87 : a.tmps[87]? = some (x 87) := hx 4 _ 87 rfl rfl (hd 4 (by kernel_rfl))
          clear hf hx hd
          rw [d4] at e87
          have wg := cell_then e0 hI
          go_simp
          refine hK _ _ ?_
          exact ⟨hI, fun h => f0 h, fun h => f1 h, fun h => f2 h, fun h => f3 h, fun h => f4 h, fun _ => rfl, fun h => f6 h, fun h => f7 h, fun h => f8 h, fun h => f9 h, fun h => f10 h, fun h => f11 h, fun h => f12 h, fun h => f13 h⟩
        · intro L x a w K hL hd hf hx hΦ hK
          obtain ⟨hI, f0, f1, f2, f3, f4, f5, f6, f7, f8, f9, f10, f11, f12, f13⟩ := hΦ
          have e13 : a.tmps[13]? = some (.pointer (some ⟨PY, 0, none⟩)) := hf 13 (of_decide_eq_true (by kernel_rfl))
          clear hf hx hd
          have w0 := cell_then v10 hI
          have w1 := cell_then v11 hI
          have w2 := cell_then v12 hI
          have w3 := cell_then v13 hI
          have w4 := cell_then v14 hI
          have w5 := cell_then v15 hI
          have w6 := cell_then v16 hI
          have w7 := cell_then v17 hI
          go_simp
          refine hK _ _ ?_
          exact ⟨hI, fun h => f0 h, fun h => f1 h, fun h => f2 h, fun h => f3 h, fun h => f4 h, fun h => f5 h, fun _ => rfl, fun h => f7 h, fun h => f8 h, fun h => f9 h, fun h => f10 h, fun h => f11 h, fun h => f12 h, fun h => f13 h⟩
        · intro L x a w K hL hd hf hx hΦ hK
          obtain ⟨hI, f0, f1, f2, f3, f4, f5, f6, f7, f8, f9, f10, f11, f12, f13⟩ := hΦ
          have d0 := f0 (hd 0 (by kernel_rfl))
          have e83 : a.tmps[83]? = some (x 83) := hx 0 _ 83 rfl rfl (hd 0 (by kernel_rfl))
          have d5 := f5 (hd 5 (by kernel_rfl))
          have e88 : a.tmps[88]? = some (x 88) := hx 5 _ 88 rfl rfl (hd 5 (by kernel_rfl))
          have d6 := f6 (hd 6 (by kernel_rfl))
          have e89 : a.tmps[89]? = some (x 89) := hx 6 _ 89 rfl rfl (hd 6 (by kernel_rfl))
          clear hf hx hd
          rw [d0] at e83
          rw [d5] at e88
          rw [d6] at e89
          go_simp
          go_at_call 24
          with_reducible refine (HW2.out _ hI).mono ?_
          rintro e w' ⟨q, rfl, hq8, hB8⟩
          simp only
          refine hK _ _ ?_
          exact ⟨below_then hI hB8, fun h => f0 h, fun h => f1 h, fun h => f2 h, fun h => f3 h, fun h => f4 h, fun h => f5 h, fun h => f6 h, fun _ => ⟨q, w.heap.size, w'.heap.size, rfl, Nat.le_refl _, hq8, fun h B hB => by obtain ⟨B', z0, z1, z2, z3, z4, z5, z6, z7, h1, h2, h3⟩ := f11 h; cases h1.symm.trans hB; exact .inl (HK.blk_lt h3)⟩, fun h => absurd (f8 h).1 (by rw [hL]; decide), fun h => absurd (f9 h).1 (by rw [hL]; decide), fun h => f10 h, fun h => box_up hB8 (f11 h), fun h => absurd (f12 h).1 (by rw [hL]; decide), fun h => f13 h⟩
        · intro L x a w K hL hd hf hx hΦ hK
          obtain ⟨hI, f0, f1, f2, f3, f4, f5, f6, f7, f8, f9, f10, f11, f12, f13⟩ := hΦ
          have d7 := f7 (hd 7 (by kernel_rfl))
          have e90 : a.tmps[90]? = some (x 90) := hx 7 _ 90 rfl rfl (hd 7 (by kernel_rfl))
          have lc := hd 7 (by kernel_rfl)
          clear hf hx hd
          obtain ⟨q, lo, hi, hq, _⟩ := d7
          have hCA := hq
          rw [hq] at e90
          go_simp
          refine hK _ _ ?_
          exact ⟨hI, fun h => f0 h, fun h => f1 h, fun h => f2 h, fun h => f3 h, fun h => f4 h, fun h => f5 h, fun h => f6 h, fun h => f7 h, fun _ => ⟨lc, q, rfl, hCA⟩, fun h => f9 h, fun h => f10 h, fun h => f11 h, fun h => f12 h, fun h => f13 h⟩
        · intro L x a w K hL hd hf hx hΦ hK
          obtain ⟨hI, f0, f1, f2, f3, f4, f5, f6, f7, f8, f9, f10, f11, f12, f13⟩ := hΦ
          have d8 := f8 (hd 8 (by kernel_rfl))
          have e82 : a.tmps[82]? = some (x 82) := hx 8 _ 82 rfl rfl (hd 8 (by kernel_rfl))
          clear hf hx hd
          obtain ⟨lc, q, hq, hq2⟩ := d8
          have hq3 := hq2.trans hq
          rw [hq] at e82
          go_simp
          refine hK _ _ ?_
          exact ⟨hI, fun h => f0 h, fun h => f1 h, fun h => f2 h, fun h => f3 h, fun h => f4 h, fun h => f5 h, fun h => f6 h, fun h => f7 h, fun h => f8 h, fun _ => ⟨lc, q, rfl, hq3⟩, fun h => f10 h, fun h => f11 h, fun h => f12 h, fun h => f13 h⟩
        · intro L x a w K hL hd hf hx hΦ hK
          obtain ⟨hI, f0, f1, f2, f3, f4, f5, f6, f7, f8, f9, f10, f11, f12, f13⟩ := hΦ
          have d8 := f8 (hd 8 (by kernel_rfl))
          have e82 : a.tmps[82]? = some (x 82) := hx 8 _ 82 rfl rfl (hd 8 (by kernel_rfl))
          clear hf hx hd
          obtain ⟨lc, q, hq, hq2⟩ := d8
          rw [hq] at e82
          go_simp
          refine hK _ _ ?_
          exact ⟨hI, fun h => f0 h, fun h => f1 h, fun h => f2 h, fun h => f3 h, fun h => f4 h, fun h => f5 h, fun h => f6 h, fun h => f7 h, fun h => f8 h, fun h => f9 h, fun _ => rfl, fun h => f11 h, fun h => f12 h, fun h => f13 h⟩
        · intro L x a w K hL hd hf hx hΦ hK
          obtain ⟨hI, f0, f1, f2, f3, f4, f5, f6, f7, f8, f9, f10, f11, f12, f13⟩ := hΦ
          clear hf hx hd
          go_simp
          refine hK _ _ ?_
          exact ⟨bl_al hI, fun h => f0 h, fun h => f1 h, fun h => f2 h, fun h => f3 h, fun h => f4 h, fun h => f5 h, fun h => f6 h, fun h => (f7 h).imp fun q h => h.imp fun lo h => h.imp fun hi h => ⟨h.1, Nat.le_trans h.2.1 (((Below.refl _ w).alloc (Nat.le_refl _) _)).size, h.2.2.1.turn fun b hb => ⟨hb, (((Below.refl _ w).alloc (Nat.le_refl _) _)).block b (by have := hb.2; have := h.2.1; omega)⟩, fun _ B hB => by cases hB; exact .inr h.2.1⟩, fun h => f8 h, fun h => f9 h, fun h => f10 h, fun _ => ⟨_, _, _, _, _, _, _, _, _, rfl, hI.size, HK.blk_new _ _⟩, fun h => absurd (f12 h).2.1 (by rw [hL]; decide), fun h => f13 h⟩
        · intro L x a w K hL hd hf hx hΦ hK
          obtain ⟨hI, f0, f1, f2, f3, f4, f5, f6, f7, f8, f9, f10, f11, f12, f13⟩ := hΦ
          have d9 := f9 (hd 9 (by kernel_rfl))
          have e91 : a.tmps[91]? = some (x 91) := hx 9 _ 91 rfl rfl (hd 9 (by kernel_rfl))
          have d11 := f11 (hd 11 (by kernel_rfl))
          have e20 : a.tmps[20]? = some (x 20) := hx 11 _ 20 rfl rfl (hd 11 (by kernel_rfl))
          have d7 := f7 (hd 7 (by kernel_rfl))
          have lc := hd 7 (by kernel_rfl)
          have la := hd 11 (by kernel_rfl)
          clear hf hx hd
          obtain ⟨lc2, q, hq, hq2⟩ := d9
          obtain ⟨B, z0, z1, z2, z3, z4, z5, z6, z7, hb, hBl, hbx⟩ := d11
          obtain ⟨q', lo, hi, hq3, hhi, hpq, hap⟩ := d7
          have hqq : q' = q := by
            have h9 := hq3.symm.trans hq2
            obtain ⟨a1, a2, a3⟩ := q
            obtain ⟨b1, b2, b3⟩ := q'
            simpa using h9
          subst hqq
          have hap := hap la B hb
          rw [hq] at e91
          rw [hb] at e20
          have c0 := HK.blk_cell hbx 0
          have c1 := HK.blk_cell hbx 1
          have c2 := HK.blk_cell hbx 2
          have c3 := HK.blk_cell hbx 3
          have c4 := HK.blk_cell hbx 4
          have c5 := HK.blk_cell hbx 5
          have c6 := HK.blk_cell hbx 6
          have c7 := HK.blk_cell hbx 7
          have cf := fun i => HK.blk_frozen hbx i
          go_simp
          have hF := set8_frm w B (.string r2) (.int .u8 ro2) (.string rm2) (.slice ra2 rb2 rd2) (.slice re2 rf2 rg2) (.int .i64 rl2) (.slice q'.a q'.n q'.c) (.slice rh2 ri2 rj2)
          have hzF := hF.size
          refine hK undef _ ?_
          exact ⟨below_set8 hI hBl rfl, fun h => f0 h, fun h => f1 h, fun h => f2 h, fun h => f3 h, fun h => f4 h, fun h => f5 h, fun h => f6 h, fun h => ⟨q', lo, hi, hq3, Nat.le_trans hhi hzF, hpq.turn fun b hb9 => ⟨hb9, hF.block b (Nat.lt_of_lt_of_le hb9.2 hhi) (by rcases hap with h | h <;> omega)⟩, fun _ B' hB' => by cases hB'.symm.trans hb; exact hap⟩, fun h => f8 h, fun h => f9 h, fun h => f10 h, fun h => ⟨B, _, _, _, _, _, _, _, _, hb, hBl, set8 hbx _ _ _ _ _ _ _ _⟩, fun _ => ⟨lc, la, q', B, hb, set8 hbx _ _ _ _ _ _ _ _, (hpq.turn (T := fun b => b < _) fun b hb9 => ⟨Nat.lt_of_lt_of_le hb9.2 (Nat.le_trans hhi hzF), hF.block b (Nat.lt_of_lt_of_le hb9.2 hhi) (by rcases hap with h | h <;> omega)⟩).ps fun b hb9 => hb9⟩, fun h => f13 h⟩
        · intro L x a w K hL hd hf hx hΦ hK
          obtain ⟨hI, f0, f1, f2, f3, f4, f5, f6, f7, f8, f9, f10, f11, f12, f13⟩ := hΦ
          have d10 := f10 (hd 10 (by kernel_rfl))
          have e92 : a.tmps[92]? = some (x 92) := hx 10 _ 92 rfl rfl (hd 10 (by kernel_rfl))
          clear hf hx hd
          rw [d10] at e92
          go_simp
          refine hK _ _ ?_
          exact ⟨hI, fun h => f0 h, fun h => f1 h, fun h => f2 h, fun h => f3 h, fun h => f4 h, fun h => f5 h, fun h => f6 h, fun h => f7 h, fun h => f8 h, fun h => f9 h, fun h => f10 h, fun h => f11 h, fun h => f12 h, fun _ => rfl⟩
        · rintro x W ⟨hI, f0, f1, f2, f3, f4, f5, f6, f7, f8, f9, f10, f11, f12, f13⟩
          obtain ⟨_, _, ⟨qa, qn, qc⟩, B, hb, hbx, hps⟩ := f12 (by kernel_rfl)
          have hout := f13 (by kernel_rfl)
          simp only [Exit.then]
          go_step
          go_meet
          case rel => exact ⟨B, qa, qn, qc, hb, hout, hbx, hps, hI⟩
      case rest =>
        obtain ⟨D2, qa2, qn2, qc2, rfl, rfl, hnew, hnps, hBn⟩ := hcut
        obtain ⟨w7, rfl⟩ : ∃ w7 : World, w7 = wc := ⟨_, rfl⟩
        have HBP_w7 := Lib.hid ((hBn.block _ (HK.blk_lt HBP_w6.out)).trans HBP_w6.out)
        have HBPX_w7 := Lib.hid ((hBn.block _ (HK.blk_lt HBPX_w6.out)).trans HBPX_w6.out)
        have HBPY_w7 := Lib.hid ((hBn.block _ (HK.blk_lt HBPY_w6.out)).trans HBPY_w6.out)
        have HBD1_w7 := Lib.hid ((hBn.block _ (HK.blk_lt HBD1_w6.out)).trans HBD1_w6.out)
        have HSP_w7 := Lib.hid (HSP_w6.out.up hBn)
        have HSPX_w7 := Lib.hid (HSPX_w6.out.up hBn)
        have HSPY_w7 := Lib.hid (HSPY_w6.out.up hBn)
        have HSD1_w7 := Lib.hid (HSD1_w6.out.up hBn)
        have HBD2_w7 := Lib.hid hnew
        have HSD2_w7 := Lib.hid hnps
        have HIA_w7 := Lib.hid (HIA_w6.out.below hBn)
        have HIK_w7 := Lib.hid (HIK_w6.out.below hBn)
        have HW5_w7 := Lib.hid (below_then HW5_w6.out hBn)
        replace c0 := cell_then c0 hBn
        replace e0 := cell_then e0 hBn
        clear hnew hnps hBn
        obtain ⟨q1, q2, b, l1, l2, l3, l4, l5, l6, l7⟩ := HLAW.out
        have hr1 := HR1.out
        have hr2 := HR2.out
        rw [with_some hmt l1] at hr1
        rw [with_some hmt l2] at hr2
        have hd1 : (cd1 = 0 ∧ measT q1 = true ∧ q1 = .node r1 ⟨ro1, rm1, ⟨ra1, rb1, rd1⟩, ⟨re1, rf1, rg1⟩, rl1, ⟨rh1, ri1, rj1⟩⟩ rs1) ∨ cd1 = 5 := by
          split at hr1
          · rename_i h
            obtain ⟨h2, h3⟩ := Prod.mk.inj hr1
            exact .inl ⟨h2, h, h3.symm⟩
          · exact .inr (Prod.mk.inj hr1).1
        have hd2 : (cd2 = 0 ∧ measT q2 = true ∧ q2 = .node r2 ⟨ro2, rm2, ⟨ra2, rb2, rd2⟩, ⟨re2, rf2, rg2⟩, rl2, ⟨rh2, ri2, rj2⟩⟩ rs2) ∨ cd2 = 5 := by
          split at hr2
          · rename_i h
            obtain ⟨h2, h3⟩ := Prod.mk.inj hr2
            exact .inl ⟨h2, h, h3.symm⟩
          · exact .inr (Prod.mk.inj hr2).1
        have HL1 := Lib.hid l1
        have HL2 := Lib.hid l2
        have HL3 := Lib.hid l3
        have HL4 := Lib.hid l4
        have HL5 := Lib.hid l5
        have HL6 := Lib.hid l6
        have HL7 := Lib.hid l7
        clear hr1 hr2 l1 l2 l3 l4 l5 l6 l7
        rcases hd1 with ⟨rfl, hm1, he1⟩ | rfl
        · rcases hd2 with ⟨rfl, hm2, he2⟩ | rfl
          · subst he1 he2
            have hz1 := replT_size HL1.out
            have hz2 := replT_size HL2.out
            have hp1 := replT_plain hpx hpt HL1.out
            have hp2 := replT_plain hpy hpt HL2.out
            obtain ⟨⟨cd3, ⟨r3, ⟨ro3, rm3, ⟨ra3, rb3, rd3⟩, ⟨re3, rf3, rg3⟩, rl3, ⟨rh3, ri3, rj3⟩⟩, rs3⟩⟩, hR3⟩ : ∃ R, R = withR (.node r1 ⟨ro1, rm1, ⟨ra1, rb1, rd1⟩, ⟨re1, rf1, rg1⟩, rl1, ⟨rh1, ri1, rj1⟩⟩ rs1) y0 (natI pl2) := ⟨_, rfl⟩
            have hR4 : withR (.node r2 ⟨ro2, rm2, ⟨ra2, rb2, rd2⟩, ⟨re2, rf2, rg2⟩, rl2, ⟨rh2, ri2, rj2⟩⟩ rs2) x0 (natI pl1) = (cd3, .node r3 ⟨ro3, rm3, ⟨ra3, rb3, rd3⟩, ⟨re3, rf3, rg3⟩, rl3, ⟨rh3, ri3, rj3⟩⟩ rs3) := by rw [with_some hm2 HL4.out, hR3, with_some hm1 HL3.out]
            have hw3 := fun (W : World) (hB : Below w7.heap.size w7 W) => with_new W (.node r1 ⟨ro1, rm1, ⟨ra1, rb1, rd1⟩, ⟨re1, rf1, rg1⟩, rl1, ⟨rh1, ri1, rj1⟩⟩ rs1) y0 ⟨qa1, qn1, qc1⟩ ⟨ua, un, uc⟩ ⟨pa2, pn2, pc2⟩ (natI pl2) (HSD1_w7.out.up hB) (by rw [hys2]; exact HSPY_w7.out.up hB) (HIK_w7.out.below hB) (by simp only [natI, List.length_map]; have := HLK.out; omega) (by omega) (by omega) hp1 hpy
            unfold RetWq at hw3
            simp only [← hR3] at hw3
            simp only [hya2] at hw3
            simp only [PT.arr, PT.rule, PT.o, PT.subs, SL.v] at hw3
            have HW3 := Lib.hid hw3
            have HR3 := Lib.hid hR3
            have HR4 := Lib.hid hR4
            have HP1 := Lib.hid hp1
            have HP2 := Lib.hid hp2
            have HM1 := Lib.hid hm1
            have HM2 := Lib.hid hm2
            have HZ2 := Lib.hid hz2
            clear hw3 hR3 hR4 hz1 hz2 hp1 hp2 hm1 hm2
            go_upto_region 13 with (fail)
            go_cut [22, 23] from 116 to 126 (fun v c wx => ∃ (D : Nat) (qa3 : Option Addr) (qn3 qc3 : Nat), v = .pointer (some ⟨D, 0, none⟩) ∧ c = .int .i64 (cd3 : Nat) ∧ wx.heap[D]? = some (.cells #[.string r3, .int .u8 ro3, .string rm3, .slice ra3 rb3 rd3, .slice re3 rf3 rg3, .int .i64 rl3, .slice qa3 qn3 qc3, .slice rh3 ri3 rj3] 30 (0, 0)) ∧ IsPs wx.heap.size wx ⟨qa3, qn3, qc3⟩ rs3 ∧ Below w7.heap.size w7 wx)
            case first =>
              have v00 : w7.cell? ⟨D1, 0, none⟩ = some (.string r1) := HK.blk_cell HBD1_w7.out 0
              have v01 : w7.cell? ⟨D1, 1, none⟩ = some (.int .u8 ro1) := HK.blk_cell HBD1_w7.out 1
              have v02 : w7.cell? ⟨D1, 2, none⟩ = some (.string rm1) := HK.blk_cell HBD1_w7.out 2
              have v03 : w7.cell? ⟨D1, 3, none⟩ = some (.slice ra1 rb1 rd1) := HK.blk_cell HBD1_w7.out 3
              have v04 : w7.cell? ⟨D1, 4, none⟩ = some (.slice re1 rf1 rg1) := HK.blk_cell HBD1_w7.out 4
              have v05 : w7.cell? ⟨D1, 5, none⟩ = some (.int .i64 rl1) := HK.blk_cell HBD1_w7.out 5
              have v06 : w7.cell? ⟨D1, 6, none⟩ = some (.slice qa1 qn1 qc1) := HK.blk_cell HBD1_w7.out 6
              have v07 : w7.cell? ⟨D1, 7, none⟩ = some (.slice rh1 ri1 rj1) := HK.blk_cell HBD1_w7.out 7
              have v10 : w7.cell? ⟨PY, 0, none⟩ = some (.string yr) := HK.blk_cell HBPY_w7.out 0
              have v11 : w7.cell? ⟨PY, 1, none⟩ = some (.int .u8 yo) := HK.blk_cell HBPY_w7.out 1
              have v12 : w7.cell? ⟨PY, 2, none⟩ = some (.string ym) := HK.blk_cell HBPY_w7.out 2
              have v13 : w7.cell? ⟨PY, 3, none⟩ = some (.slice ia i2 ic) := HK.blk_cell HBPY_w7.out 3
              have v14 : w7.cell? ⟨PY, 4, none⟩ = some (.slice ja jn jc) := HK.blk_cell HBPY_w7.out 4
              have v15 : w7.cell? ⟨PY, 5, none⟩ = some (.int .i64 yl) := HK.blk_cell HBPY_w7.out 5
              have v16 : w7.cell? ⟨PY, 6, none⟩ = some (.slice ua un uc) := HK.blk_cell HBPY_w7.out 6
              have v17 : w7.cell? ⟨PY, 7, none⟩ = some (.slice ka kn kc) := HK.blk_cell HBPY_w7.out 7
              refine Go.RE.wp_region_each [117, 118, 119, 120, 121, 122, 123, 124, 116, 125, 126, 22, 23] (fun L x W => (Below w7.heap.size w7 W) ∧ (L 0 = true → x 117 = .agg #[.string r1, .int .u8 ro1, .string rm1, .slice ra1 rb1 rd1, .slice re1 rf1 rg1, .int .i64 rl1, .slice qa1 qn1 qc1, .slice rh1 ri1 rj1]) ∧ (L 1 = true → x 118 = .slice (some ⟨g, 0, none⟩) na gc) ∧ (L 2 = true → x 119 = .int .i64 k) ∧ (L 3 = true → x 120 = .pointer (some ⟨g, k * 2, none⟩)) ∧ (L 4 = true → x 121 = .pointer (some ⟨g, k * 2, none⟩)) ∧ (L 5 = true → x 122 = .slice pa2 pn2 pc2) ∧ (L 6 = true → x 123 = .agg #[.string yr, .int .u8 yo, .string ym, .slice ia i2 ic, .slice ja jn jc, .int .i64 yl, .slice ua un uc, .slice ka kn kc]) ∧ (L 7 = true → ∃ (q : SL) (lo hi : Nat), x 124 = .tuple #[.agg #[.string r3, .int .u8 ro3, .string rm3, .slice ra3 rb3 rd3, .slice re3 rf3 rg3, .int .i64 rl3, .slice q.a q.n q.c, .slice rh3 ri3 rj3], .int .i64 (cd3 : Nat)] ∧ hi ≤ W.heap.size ∧ IsPq (fun kk => lo ≤ kk ∧ kk < hi) W q rs3 ∧ (L 11 = true → ∀ B, x 22 = .pointer (some ⟨B, 0, none⟩) → B < lo ∨ hi ≤ B)) ∧ (L 8 = true → L 7 = true ∧ ∃ q : SL, x 116 = .tuple #[.agg #[.string r3, .int .u8 ro3, .string rm3, .slice ra3 rb3 rd3, .slice re3 rf3 rg3, .int .i64 rl3, .slice q.a q.n q.c, .slice rh3 ri3 rj3], .int .i64 (cd3 : Nat)] ∧ x 124 = x 116) ∧ (L 9 = true → L 7 = true ∧ ∃ q : SL, x 125 = .agg #[.string r3, .int .u8 ro3, .string rm3, .slice ra3 rb3 rd3, .slice re3 rf3 rg3, .int .i64 rl3, .slice q.a q.n q.c, .slice rh3 ri3 rj3] ∧ x 124 = .tuple #[.agg #[.string r3, .int .u8 ro3, .string rm3, .slice ra3 rb3 rd3, .slice re3 rf3 rg3, .int .i64 rl3, .slice q.a q.n q.c, .slice rh3 ri3 rj3], .int .i64 (cd3 : Nat)]) ∧ (L 10 = true → x 126 = .int .i64 (cd3 : Nat)) ∧ (L 11 = true → ∃ B z0 z1 z2 z3 z4 z5 z6 z7, x 22 = .pointer (some ⟨B, 0, none⟩) ∧ w7.heap.size ≤ B ∧ W.heap[B]? = some (.cells #[z0, z1, z2, z3, z4, z5, z6, z7] 30 (0, 0))) ∧ (L 12 = true → L 7 = true ∧ L 11 = true ∧ ∃ (q : SL) (B : Nat), x 22 = .pointer (some ⟨B, 0, none⟩) ∧ W.heap[B]? = some (.cells #[.string r3, .int .u8 ro3, .string rm3, .slice ra3 rb3 rd3, .slice re3 rf3 rg3, .int .i64 rl3, .slice q.a q.n q.c, .slice rh3 ri3 rj3] 30 (0, 0)) ∧ IsPs W.heap.size W q rs3) ∧ (L 13 = true → x 23 = .int .i64 (cd3 : Nat))) (by kernel_rfl) (by kernel_rfl) (by kernel_rfl) ?_ ((Go.RE.Each.cons ?_ (Go.RE.Each.cons ?_ (Go.RE.Each.cons ?_ (Go.RE.Each.cons ?_ (Go.RE.Each.cons ?_ (Go.RE.Each.cons ?_ (Go.RE.Each.cons ?_ (Go.RE.Each.cons ?_ (Go.RE.Each.cons ?_ (Go.RE.Each.cons ?_ (Go.RE.Each.cons ?_ (Go.RE.Each.cons ?_ (Go.RE.Each.cons ?_ (Go.RE.Each.cons ?_ Go.RE.Each.nil))))))))))))))) ?_
              · exact fun x => ⟨bl_dr (Below.refl _ w7), fun h => (by cases h), fun h => (by cases h), fun h => (by cases h), fun h => (by cases h), fun h => (by cases h), fun h => (by cases h), fun h => (by cases h), fun h => (by cases h), fun h => (by cases h), fun h => (by cases h), fun h => (by cases h), fun h => (by cases h), fun h => (by cases h), fun h => (by cases h)⟩
              · intro L x a w K hL hd hf hx hΦ hK
                obtain ⟨hI, f0, f1, f2, f3, f4, f5, f6, f7, f8, f9, f10, f11, f12, f13⟩ := hΦ
                have e18 : a.tmps[18]? = some (.pointer (some ⟨D1, 0, none⟩)) := hf 18 (of_decide_eq_true (by kernel_rfl))
                clear hf hx hd
                have w0 := cell_then v00 hI
                have w1 := cell_then v01 hI
                have w2 := cell_then v02 hI
                have w3 := cell_then v03 hI
                have w4 := cell_then v04 hI
                have w5 := cell_then v05 hI
                have w6 := cell_then v06 hI
                have w7 := cell_then v07 hI
                go_simp
                refine hK _ _ ?_
                exact ⟨hI, fun _ => rfl, fun h => f1 h, fun h => f2 h, fun h => f3 h, fun h => f4 h, fun h => f5 h, fun h => f6 h, fun h => f7 h, fun h => f8 h, fun h => f9 h, fun h => f10 h, fun h => f11 h, fun h => f12 h, fun h => f13 h⟩
              · intro L x a w K hL hd hf hx hΦ hK
                obtain ⟨hI, f0, f1, f2, f3, f4, f5, f6, f7, f8, f9, f10, f11, f12, f13⟩ := hΦ
                have e14 : a.tmps[14]? = some (.slice (some ⟨g, 0, none⟩) na gc) := hf 14 (of_decide_eq_true (by kernel_rfl))
                clear hf hx hd
                go_simp
                refine hK _ _ ?_
                exact ⟨hI, fun h => f0 h, fun _ => rfl, fun h => f2 h, fun h => f3 h, fun h => f4 h, fun h => f5 h, fun h => f6 h, fun h => f7 h, fun h => f8 h, fun h => f9 h, fun h => f10 h, fun h => f11 h, fun h => f12 h, fun h => f13 h⟩
              · intro L x a w K hL hd hf hx hΦ hK
                obtain ⟨hI, f0, f1, f2, f3, f4, f5, f6, f7, f8, f9, f10, f11, f12, f13⟩ := hΦ
                have e17 : a.tmps[17]? = some (.int .i64 k) := hf 17 (of_decide_eq_true (by kernel_rfl))
                clear hf hx hd
                go_simp
                refine hK _ _ ?_
                exact ⟨hI, fun h => f0 h, fun h => f1 h, fun _ => rfl, fun h => f3 h, fun h => f4 h, fun h => f5 h, fun h => f6 h, fun h => f7 h, fun h => f8 h, fun h => f9 h, fun h => f10 h, fun h => f11 h, fun h => f12 h, fun h => f13 h⟩
              · intro L x a w K hL hd hf hx hΦ hK
                obtain ⟨hI, f0, f1, f2, f3, f4, f5, f6, f7, f8, f9, f10, f11, f12, f13⟩ := hΦ
                have d1 := f1 (hd 1 (by kernel_rfl))
                have e118 : a.tmps[118]? = some (x 118) := hx 1 _ 118 rfl rfl (hd 1 (by kernel_rfl))
                have d2 := f2 (hd 2 (by kernel_rfl))
                have e119 : a.tmps[119]? = some (x 119) := hx 2 _ 119 rfl rfl (hd 2 (by kernel_rfl))
                clear hf hx hd
                rw [d1] at e118
                rw [d2] at e119
                go_simp
                refine hK _ _ ?_
                exact ⟨hI, fun h => f0 h, fun h => f1 h, fun h => f2 h, fun _ => rfl, fun h => f4 h, fun h => f5 h, fun h => f6 h, fun h => f7 h, fun h => f8 h, fun h => f9 h, fun h => f10 h, fun h => f11 h, fun h => f12 h, fun h => f13 h⟩
              · intro L x a w K hL hd hf hx hΦ hK
                obtain ⟨hI, f0, f1, f2, f3, f4, f5, f6, f7, f8, f9, f10, f11, f12, f13⟩ := hΦ
                have d3 := f3 (hd 3 (by kernel_rfl))
                have e120 : a.tmps[120]? = some (x 120) := hx 3 _ 120 rfl rfl (hd 3 (by kernel_rfl))
                clear hf hx hd
                rw [d3] at e120
                go_simp
                refine hK _ _ ?_
                exact ⟨hI, fun h => f0 h, fun h => f1 h, fun h => f2 h, fun h => f3 h, fun _ => rfl, fun h => f5 h, fun h => f6 h, fun h => f7 h, fun h => f8 h, fun h => f9 h, fun h => f10 h, fun h => f11 h, fun h => f12 h, fun h => f13 h⟩
              · intro L x a w K hL hd hf hx hΦ hK
                obtain ⟨hI, f0, f1, f2, f3, f4, f5, f6, f7, f8, f9, f10, f11, f12, f13⟩ := hΦ
                have d4 := f4 (hd 4 (by kernel_rfl))
                have e121 : a.tmps[121]? = some (x 121) := hx 4 _ 121 rfl rfl (hd 4 (by kernel_rfl))
                clear hf hx hd
                rw [d4] at e121
                have wg := cell_then e0 hI
                go_simp
                refine hK _ _ ?_
                exact ⟨hI, fun h => f0 h, fun h => f1 h, fun h => f2 h, fun h => f3 h, fun h => f4 h, fun _ => rfl, fun h => f6 h, fun h => f7 h, fun h => f8 h, fun h => f9 h, fun h => f10 h, fun h => f11 h, fun h => f12 h, fun h => f13 h⟩
              · intro L x a w K hL hd hf hx hΦ hK
                obtain ⟨hI, f0, f1, f2, f3, f4, f5, f6, f7, f8, f9, f10, f11, f12, f13⟩ := hΦ
                have e13 : a.tmps[13]? = some (.pointer (some ⟨PY, 0, none⟩)) := hf 13 (of_decide_eq_true (by kernel_rfl))
                clear hf hx hd
                have w0 := cell_then v10 hI
                have w1 := cell_then v11 hI
                have w2 := cell_then v12 hI
                have w3 := cell_then v13 hI
                have w4 := cell_then v14 hI
                have w5 := cell_then v15 hI
                have w6 := cell_then v16 hI
                have w7 := cell_then v17 hI
                go_simp
                refine hK _ _ ?_
                exact ⟨hI, fun h => f0 h, fun h => f1 h, fun h => f2 h, fun h => f3 h, fun h => f4 h, fun h => f5 h, fun _ => rfl, fun h => f7 h, fun h => f8 h, fun h => f9 h, fun h => f10 h, fun h => f11 h, fun h => f12 h, fun h => f13 h⟩
              · intro L x a w K hL hd hf hx hΦ hK
                obtain ⟨hI, f0, f1, f2, f3, f4, f5, f6, f7, f8, f9, f10, f11, f12, f13⟩ := hΦ
                have d0 := f0 (hd 0 (by kernel_rfl))
                have e117 : a.tmps[117]? = some (x 117) := hx 0 _ 117 rfl rfl (hd 0 (by kernel_rfl))
                have d5 := f5 (hd 5 (by kernel_rfl))
                have e122 : a.tmps[122]? = some (x 122) := hx 5 _ 122 rfl rfl (hd 5 (by kernel_rfl))
                have d6 := f6 (hd 6 (by kernel_rfl))
                have e123 : a.tmps[123]? = some (x 123) := hx 6 _ 123 rfl rfl (hd 6 (by kernel_rfl))
                clear hf hx hd
                rw [d0] at e117
                rw [d5] at e122
                rw [d6] at e123
                go_simp
                go_at_call 24
                with_reducible refine (HW3.out _ hI).mono ?_
                rintro e w' ⟨q, rfl, hq8, hB8⟩
                simp only
                refine hK _ _ ?_
                exact ⟨below_then hI hB8, fun h => f0 h, fun h => f1 h, fun h => f2 h, fun h => f3 h, fun h => f4 h, fun h => f5 h, fun h => f6 h, fun _ => ⟨q, w.heap.size, w'.heap.size, rfl, Nat.le_refl _, hq8, fun h B hB => by obtain ⟨B', z0, z1, z2, z3, z4, z5, z6, z7, h1, h2, h3⟩ := f11 h; cases h1.symm.trans hB; exact .inl (HK.blk_lt h3)⟩, fun h => absurd (f8 h).1 (by rw [hL]; decide), fun h => absurd (f9 h).1 (by rw [hL]; decide), fun h => f10 h, fun h => box_up hB8 (f11 h), fun h => absurd (f12 h).1 (by rw [hL]; decide), fun h => f13 h⟩
              · intro L x a w K hL hd hf hx hΦ hK
                obtain ⟨hI, f0, f1, f2, f3, f4, f5, f6, f7, f8, f9, f10, f11, f12, f13⟩ := hΦ
                have d7 := f7 (hd 7 (by kernel_rfl))
                have e124 : a.tmps[124]? = some (x 124) := hx 7 _ 124 rfl rfl (hd 7 (by kernel_rfl))
                have lc := hd 7 (by kernel_rfl)
                clear hf hx hd
                obtain ⟨q, lo, hi, hq, _⟩ := d7
                have hCA := hq
                rw [hq] at e124
                go_simp
                refine hK _ _ ?_
                exact ⟨hI, fun h => f0 h, fun h => f1 h, fun h => f2 h, fun h => f3 h, fun h => f4 h, fun h => f5 h, fun h => f6 h, fun h => f7 h, fun _ => ⟨lc, q, rfl, hCA⟩, fun h => f9 h, fun h => f10 h, fun h => f11 h, fun h => f12 h, fun h => f13 h⟩
              · intro L x a w K hL hd hf hx hΦ hK
                obtain ⟨hI, f0, f1, f2, f3, f4, f5, f6, f7, f8, f9, f10, f11, f12, f13⟩ := hΦ
                have d8 := f8 (hd 8 (by kernel_rfl))
                have e116 : a.tmps[116]? = some (x 116) := hx 8 _ 116 rfl rfl (hd 8 (by kernel_rfl))
                clear hf hx hd
                obtain ⟨lc, q, hq, hq2⟩ := d8
                have hq3 := hq2.trans hq
                rw [hq] at e116
                go_simp
                refine hK _ _ ?_
                exact ⟨hI, fun h => f0 h, fun h => f1 h, fun h => f2 h, fun h => f3 h, fun h => f4 h, fun h => f5 h, fun h => f6 h, fun h => f7 h, fun h => f8 h, fun _ => ⟨lc, q, rfl, hq3⟩, fun h => f10 h, fun h => f11 h, fun h => f12 h, fun h => f13 h⟩
              · intro L x a w K hL hd hf hx hΦ hK
                obtain ⟨hI, f0, f1, f2, f3, f4, f5, f6, f7, f8, f9, f10, f11, f12, f13⟩ := hΦ
                have d8 := f8 (hd 8 (by kernel_rfl))
                have e116 : a.tmps[116]? = some (x 116) := hx 8 _ 116 rfl rfl (hd 8 (by kernel_rfl))
                clear hf hx hd
                obtain ⟨lc, q, hq, hq2⟩ := d8
                rw [hq] at e116
                go_simp
                refine hK _ _ ?_
                exact ⟨hI, fun h => f0 h, fun h => f1 h, fun h => f2 h, fun h => f3 h, fun h => f4 h, fun h => f5 h, fun h => f6 h, fun h => f7 h, fun h => f8 h, fun h => f9 h, fun _ => rfl, fun h => f11 h, fun h => f12 h, fun h => f13 h⟩
              · intro L x a w K hL hd hf hx hΦ hK
                obtain ⟨hI, f0, f1, f2, f3, f4, f5, f6, f7, f8, f9, f10, f11, f12, f13⟩ := hΦ
                clear hf hx hd
                go_simp
                refine hK _ _ ?_
                exact ⟨bl_al hI, fun h => f0 h, fun h => f1 h, fun h => f2 h, fun h => f3 h, fun h => f4 h, fun h => f5 h, fun h => f6 h, fun h => (f7 h).imp fun q h => h.imp fun lo h => h.imp fun hi h => ⟨h.1, Nat.le_trans h.2.1 (((Below.refl _ w).alloc (Nat.le_refl _) _)).size, h.2.2.1.turn fun b hb => ⟨hb, (((Below.refl _ w).alloc (Nat.le_refl _) _)).block b (by have := hb.2; have := h.2.1; omega)⟩, fun _ B hB => by cases hB; exact .inr h.2.1⟩, fun h => f8 h, fun h => f9 h, fun h => f10 h, fun _ => ⟨_, _, _, _, _, _, _, _, _, rfl, hI.size, HK.blk_new _ _⟩, fun h => absurd (f12 h).2.1 (by rw [hL]; decide), fun h => f13 h⟩
              · intro L x a w K hL hd hf hx hΦ hK
                obtain ⟨hI, f0, f1, f2, f3, f4, f5, f6, f7, f8, f9, f10, f11, f12, f13⟩ := hΦ
                have d9 := f9 (hd 9 (by kernel_rfl))
                have e125 : a.tmps[125]? = some (x 125) := hx 9 _ 125 rfl rfl (hd 9 (by kernel_rfl))
                have d11 := f11 (hd 11 (by kernel_rfl))
                have e22 : a.tmps[22]? = some (x 22) := hx 11 _ 22 rfl rfl (hd 11 (by kernel_rfl))
                have d7 := f7 (hd 7 (by kernel_rfl))
                have lc := hd 7 (by kernel_rfl)
                have la := hd 11 (by kernel_rfl)
                clear hf hx hd
                obtain ⟨lc2, q, hq, hq2⟩ := d9
                obtain ⟨B, z0, z1, z2, z3, z4, z5, z6, z7, hb, hBl, hbx⟩ := d11
                obtain ⟨q', lo, hi, hq3, hhi, hpq, hap⟩ := d7
                have hqq : q' = q := by
                  have h9 := hq3.symm.trans hq2
                  obtain ⟨a1, a2, a3⟩ := q
                  obtain ⟨b1, b2, b3⟩ := q'
                  simpa using h9
                subst hqq
                have hap := hap la B hb
                rw [hq] at e125
                rw [hb] at e22
                have c0 := HK.blk_cell hbx 0
                have c1 := HK.blk_cell hbx 1
                have c2 := HK.blk_cell hbx 2
                have c3 := HK.blk_cell hbx 3
                have c4 := HK.blk_cell hbx 4
                have c5 := HK.blk_cell hbx 5
                have c6 := HK.blk_cell hbx 6
                have c7 := HK.blk_cell hbx 7
                have cf := fun i => HK.blk_frozen hbx i
                go_simp
                have hF := set8_frm w B (.string r3) (.int .u8 ro3) (.string rm3) (.slice ra3 rb3 rd3) (.slice re3 rf3 rg3) (.int .i64 rl3) (.slice q'.a q'.n q'.c) (.slice rh3 ri3 rj3)
                have hzF := hF.size
                refine hK undef _ ?_
                exact ⟨below_set8 hI hBl rfl, fun h => f0 h, fun h => f1 h, fun h => f2 h, fun h => f3 h, fun h => f4 h, fun h => f5 h, fun h => f6 h, fun h => ⟨q', lo, hi, hq3, Nat.le_trans hhi hzF, hpq.turn fun b hb9 => ⟨hb9, hF.block b (Nat.lt_of_lt_of_le hb9.2 hhi) (by rcases hap with h | h <;> omega)⟩, fun _ B' hB' => by cases hB'.symm.trans hb; exact hap⟩, fun h => f8 h, fun h => f9 h, fun h => f10 h, fun h => ⟨B, _, _, _, _, _, _, _, _, hb, hBl, set8 hbx _ _ _ _ _ _ _ _⟩, fun _ => ⟨lc, la, q', B, hb, set8 hbx _ _ _ _ _ _ _ _, (hpq.turn (T := fun b => b < _) fun b hb9 => ⟨Nat.lt_of_lt_of_le hb9.2 (Nat.le_trans hhi hzF), hF.block b (Nat.lt_of_lt_of_le hb9.2 hhi) (by rcases hap with h | h <;> omega)⟩).ps fun b hb9 => hb9⟩, fun h => f13 h⟩
              · intro L x a w K hL hd hf hx hΦ hK
                obtain ⟨hI, f0, f1, f2, f3, f4, f5, f6, f7, f8, f9, f10, f11, f12, f13⟩ := hΦ
                have d10 := f10 (hd 10 (by kernel_rfl))
                have e126 : a.tmps[126]? = some (x 126) := hx 10 _ 126 rfl rfl (hd 10 (by kernel_rfl))
                clear hf hx hd
                rw [d10] at e126
                go_simp
                refine hK _ _ ?_
                exact ⟨hI, fun h => f0 h, fun h => f1 h, fun h => f2 h, fun h => f3 h, fun h => f4 h, fun h => f5 h, fun h => f6 h, fun h => f7 h, fun h => f8 h, fun h => f9 h, fun h => f10 h, fun h => f11 h, fun h => f12 h, fun _ => rfl⟩
              · rintro x W ⟨hI, f0, f1, f2, f3, f4, f5, f6, f7, f8, f9, f10, f11, f12, f13⟩
                obtain ⟨_, _, ⟨qa, qn, qc⟩, B, hb, hbx, hps⟩ := f12 (by kernel_rfl)
                have hout := f13 (by kernel_rfl)
                simp only [Exit.then]
                go_step
                go_meet
                case rel => exact ⟨B, qa, qn, qc, hb, hout, hbx, hps, hI⟩
            case rest =>
              obtain ⟨D3, qa3, qn3, qc3, rfl, rfl, hnew, hnps, hBn⟩ := hcut
              obtain ⟨wb8, rfl⟩ : ∃ wb8 : World, wb8 = wc := ⟨_, rfl⟩
              have HBP_wb8 := Lib.hid ((hBn.block _ (HK.blk_lt HBP_w7.out)).trans HBP_w7.out)
              have HBPX_wb8 := Lib.hid ((hBn.block _ (HK.blk_lt HBPX_w7.out)).trans HBPX_w7.out)
              have HBPY_wb8 := Lib.hid ((hBn.block _ (HK.blk_lt HBPY_w7.out)).trans HBPY_w7.out)
              have HBD1_wb8 := Lib.hid ((hBn.block _ (HK.blk_lt HBD1_w7.out)).trans HBD1_w7.out)
              have HBD2_wb8 := Lib.hid ((hBn.block _ (HK.blk_lt HBD2_w7.out)).trans HBD2_w7.out)
              have HSP_wb8 := Lib.hid (HSP_w7.out.up hBn)
              have HSPX_wb8 := Lib.hid (HSPX_w7.out.up hBn)
              have HSPY_wb8 := Lib.hid (HSPY_w7.out.up hBn)
              have HSD1_wb8 := Lib.hid (HSD1_w7.out.up hBn)
              have HSD2_wb8 := Lib.hid (HSD2_w7.out.up hBn)
              have HBD3_wb8 := Lib.hid hnew
              have HSD3_wb8 := Lib.hid hnps
              have HIA_wb8 := Lib.hid (HIA_w7.out.below hBn)
              have HIK_wb8 := Lib.hid (HIK_w7.out.below hBn)
              have HW5_wb8 := Lib.hid (below_then HW5_w7.out hBn)
              replace c0 := cell_then c0 hBn
              replace e0 := cell_then e0 hBn
              clear hnew hnps hBn
              have hw4 := fun (W : World) (hB : Below wb8.heap.size wb8 W) => with_new W (.node r2 ⟨ro2, rm2, ⟨ra2, rb2, rd2⟩, ⟨re2, rf2, rg2⟩, rl2, ⟨rh2, ri2, rj2⟩⟩ rs2) x0 ⟨qa2, qn2, qc2⟩ ⟨ta, tn, tc⟩ ⟨pa1, pn1, pc1⟩ (natI pl1) (HSD2_wb8.out.up hB) (by rw [hxs2]; exact HSPX_wb8.out.up hB) (HIA_wb8.out.below hB) (by simp only [natI, List.length_map]; have := HLA.out; omega) (by have := HZ2.out; omega) (by omega) HP2.out hpx
              unfold RetWq at hw4
              simp only [HR4.out] at hw4
              simp only [hxa2] at hw4
              simp only [PT.arr, PT.rule, PT.o, PT.subs, SL.v] at hw4
              have HW4 := Lib.hid hw4
              clear hw4
              go_upto_region 14 with (fail)
              go_cut [24, 25] from 127 to 137 (fun v c wx => ∃ (D : Nat) (qa4 : Option Addr) (qn4 qc4 : Nat), v = .pointer (some ⟨D, 0, none⟩) ∧ c = .int .i64 (cd3 : Nat) ∧ wx.heap[D]? = some (.cells #[.string r3, .int .u8 ro3, .string rm3, .slice ra3 rb3 rd3, .slice re3 rf3 rg3, .int .i64 rl3, .slice qa4 qn4 qc4, .slice rh3 ri3 rj3] 30 (0, 0)) ∧ IsPs wx.heap.size wx ⟨qa4, qn4, qc4⟩ rs3 ∧ Below wb8.heap.size wb8 wx)
              case first =>
                have v00 : wb8.cell? ⟨D2, 0, none⟩ = some (.string r2) := HK.blk_cell HBD2_wb8.out 0
                have v01 : wb8.cell? ⟨D2, 1, none⟩ = some (.int .u8 ro2) := HK.blk_cell HBD2_wb8.out 1
                have v02 : wb8.cell? ⟨D2, 2, none⟩ = some (.string rm2) := HK.blk_cell HBD2_wb8.out 2
                have v03 : wb8.cell? ⟨D2, 3, none⟩ = some (.slice ra2 rb2 rd2) := HK.blk_cell HBD2_wb8.out 3
                have v04 : wb8.cell? ⟨D2, 4, none⟩ = some (.slice re2 rf2 rg2) := HK.blk_cell HBD2_wb8.out 4
                have v05 : wb8.cell? ⟨D2, 5, none⟩ = some (.int .i64 rl2) := HK.blk_cell HBD2_wb8.out 5
                have v06 : wb8.cell? ⟨D2, 6, none⟩ = some (.slice qa2 qn2 qc2) := HK.blk_cell HBD2_wb8.out 6
                have v07 : wb8.cell? ⟨D2, 7, none⟩ = some (.slice rh2 ri2 rj2) := HK.blk_cell HBD2_wb8.out 7
                have v10 : wb8.cell? ⟨PX, 0, none⟩ = some (.string xr) := HK.blk_cell HBPX_wb8.out 0
                have v11 : wb8.cell? ⟨PX, 1, none⟩ = some (.int .u8 xo) := HK.blk_cell HBPX_wb8.out 1
                have v12 : wb8.cell? ⟨PX, 2, none⟩ = some (.string xm) := HK.blk_cell HBPX_wb8.out 2
                have v13 : wb8.cell? ⟨PX, 3, none⟩ = some (.slice ba bn bc) := HK.blk_cell HBPX_wb8.out 3
                have v14 : wb8.cell? ⟨PX, 4, none⟩ = some (.slice da dn dc) := HK.blk_cell HBPX_wb8.out 4
                have v15 : wb8.cell? ⟨PX, 5, none⟩ = some (.int .i64 xl) := HK.blk_cell HBPX_wb8.out 5
                have v16 : wb8.cell? ⟨PX, 6, none⟩ = some (.slice ta tn tc) := HK.blk_cell HBPX_wb8.out 6
                have v17 : wb8.cell? ⟨PX, 7, none⟩ = some (.slice ea en ec) := HK.blk_cell HBPX_wb8.out 7
                refine Go.RE.wp_region_each [128, 129, 130, 131, 132, 133, 134, 135, 127, 136, 137, 24, 25] (fun L x W => (Below wb8.heap.size wb8 W) ∧ (L 0 = true → x 128 = .agg #[.string r2, .int .u8 ro2, .string rm2, .slice ra2 rb2 rd2, .slice re2 rf2 rg2, .int .i64 rl2, .slice qa2 qn2 qc2, .slice rh2 ri2 rj2]) ∧ (L 1 = true → x 129 = .slice (some ⟨g, 0, none⟩) na gc) ∧ (L 2 = true → x 130 = .int .i64 i) ∧ (L 3 = true → x 131 = .pointer (some ⟨g, i * 2, none⟩)) ∧ (L 4 = true → x 132 = .pointer (some ⟨g, i * 2, none⟩)) ∧ (L 5 = true → x 133 = .slice pa1 pn1 pc1) ∧ (L 6 = true → x 134 = .agg #[.string xr, .int .u8 xo, .string xm, .slice ba bn bc, .slice da dn dc, .int .i64 xl, .slice ta tn tc, .slice ea en ec]) ∧ (L 7 = true → ∃ (q : SL) (lo hi : Nat), x 135 = .tuple #[.agg #[.string r3, .int .u8 ro3, .string rm3, .slice ra3 rb3 rd3, .slice re3 rf3 rg3, .int .i64 rl3, .slice q.a q.n q.c, .slice rh3 ri3 rj3], .int .i64 (cd3 : Nat)] ∧ hi ≤ W.heap.size ∧ IsPq (fun kk => lo ≤ kk ∧ kk < hi) W q rs3 ∧ (L 11 = true → ∀ B, x 24 = .pointer (some ⟨B, 0, none⟩) → B < lo ∨ hi ≤ B)) ∧ (L 8 = true → L 7 = true ∧ ∃ q : SL, x 127 = .tuple #[.agg #[.string r3, .int .u8 ro3, .string rm3, .slice ra3 rb3 rd3, .slice re3 rf3 rg3, .int .i64 rl3, .slice q.a q.n q.c, .slice rh3 ri3 rj3], .int .i64 (cd3 : Nat)] ∧ x 135 = x 127) ∧ (L 9 = true → L 7 = true ∧ ∃ q : SL, x 136 = .agg #[.string r3, .int .u8 ro3, .string rm3, .slice ra3 rb3 rd3, .slice re3 rf3 rg3, .int .i64 rl3, .slice q.a q.n q.c, .slice rh3 ri3 rj3] ∧ x 135 = .tuple #[.agg #[.string r3, .int .u8 ro3, .string rm3, .slice ra3 rb3 rd3, .slice re3 rf3 rg3, .int .i64 rl3, .slice q.a q.n q.c, .slice rh3 ri3 rj3], .int .i64 (cd3 : Nat)]) ∧ (L 10 = true → x 137 = .int .i64 (cd3 : Nat)) ∧ (L 11 = true → ∃ B z0 z1 z2 z3 z4 z5 z6 z7, x 24 = .pointer (some ⟨B, 0, none⟩) ∧ wb8.heap.size ≤ B ∧ W.heap[B]? = some (.cells #[z0, z1, z2, z3, z4, z5, z6, z7] 30 (0, 0))) ∧ (L 12 = true → L 7 = true ∧ L 11 = true ∧ ∃ (q : SL) (B : Nat), x 24 = .pointer (some ⟨B, 0, none⟩) ∧ W.heap[B]? = some (.cells #[.string r3, .int .u8 ro3, .string rm3, .slice ra3 rb3 rd3, .slice re3 rf3 rg3, .int .i64 rl3, .slice q.a q.n q.c, .slice rh3 ri3 rj3] 30 (0, 0)) ∧ IsPs W.heap.size W q rs3) ∧ (L 13 = true → x 25 = .int .i64 (cd3 : Nat))) (by kernel_rfl) (by kernel_rfl) (by kernel_rfl) ?_ ((Go.RE.Each.cons ?_ (Go.RE.Each.cons ?_ (Go.RE.Each.cons ?_ (Go.RE.Each.cons ?_ (Go.RE.Each.cons ?_ (Go.RE.Each.cons ?_ (Go.RE.Each.cons ?_ (Go.RE.Each.cons ?_ (Go.RE.Each.cons ?_ (Go.RE.Each.cons ?_ (Go.RE.Each.cons ?_ (Go.RE.Each.cons ?_ (Go.RE.Each.cons ?_ (Go.RE.Each.cons ?_ Go.RE.Each.nil))))))))))))))) ?_
                · exact fun x => ⟨bl_dr (Below.refl _ wb8), fun h => (by cases h), fun h => (by cases h), fun h => (by cases h), fun h => (by cases h), fun h => (by cases h), fun h => (by cases h), fun h => (by cases h), fun h => (by cases h), fun h => (by cases h), fun h => (by cases h), fun h => (by cases h), fun h => (by cases h), fun h => (by cases h), fun h => (by cases h)⟩
                · intro L x a w K hL hd hf hx hΦ hK
                  obtain ⟨hI, f0, f1, f2, f3, f4, f5, f6, f7, f8, f9, f10, f11, f12, f13⟩ := hΦ
                  have e20 : a.tmps[20]? = some (.pointer (some ⟨D2, 0, none⟩)) := hf 20 (of_decide_eq_true (by kernel_rfl))
                  clear hf hx hd
                  have w0 := cell_then v00 hI
                  have w1 := cell_then v01 hI
                  have w2 := cell_then v02 hI
                  have w3 := cell_then v03 hI
                  have w4 := cell_then v04 hI
                  have w5 := cell_then v05 hI
                  have w6 := cell_then v06 hI
                  have w7 := cell_then v07 hI
                  go_simp
                  refine hK _ _ ?_
                  exact ⟨hI, fun _ => rfl, fun h => f1 h, fun h => f2 h, fun h => f3 h, fun h => f4 h, fun h => f5 h, fun h => f6 h, fun h => f7 h, fun h => f8 h, fun h => f9 h, fun h => f10 h, fun h => f11 h, fun h => f12 h, fun h => f13 h⟩
                · intro L x a w K hL hd hf hx hΦ hK
                  obtain ⟨hI, f0, f1, f2, f3, f4, f5, f6, f7, f8, f9, f10, f11, f12, f13⟩ := hΦ
                  have e14 : a.tmps[14]? = some (.slice (some ⟨g, 0, none⟩) na gc) := hf 14 (of_decide_eq_true (by kernel_rfl))
                  clear hf hx hd
                  go_simp
                  refine hK _ _ ?_
                  exact ⟨hI, fun h => f0 h, fun _ => rfl, fun h => f2 h, fun h => f3 h, fun h => f4 h, fun h => f5 h, fun h => f6 h, fun h => f7 h, fun h => f8 h, fun h => f9 h, fun h => f10 h, fun h => f11 h, fun h => f12 h, fun h => f13 h⟩
                · intro L x a w K hL hd hf hx hΦ hK
                  obtain ⟨hI, f0, f1, f2, f3, f4, f5, f6, f7, f8, f9, f10, f11, f12, f13⟩ := hΦ
                  have e16 : a.tmps[16]? = some (.int .i64 i) := hf 16 (of_decide_eq_true (by kernel_rfl))
                  clear hf hx hd
                  go_simp
                  refine hK _ _ ?_
                  exact ⟨hI, fun h => f0 h, fun h => f1 h, fun _ => rfl, fun h => f3 h, fun h => f4 h, fun h => f5 h, fun h => f6 h, fun h => f7 h, fun h => f8 h, fun h => f9 h, fun h => f10 h, fun h => f11 h, fun h => f12 h, fun h => f13 h⟩
                · intro L x a w K hL hd hf hx hΦ hK
                  obtain ⟨hI, f0, f1, f2, f3, f4, f5, f6, f7, f8, f9, f10, f11, f12, f13⟩ := hΦ
                  have d1 := f1 (hd 1 (by kernel_rfl))
                  have e129 : a.tmps[129]? = some (x 129) := hx 1 _ 129 rfl rfl (hd 1 (by kernel_rfl))
                  have d2 := f2 (hd 2 (by kernel_rfl))
                  have e130 : a.tmps[130]? = some (x 130) := hx 2 _ 130 rfl rfl (hd 2 (by kernel_rfl))
                  clear hf hx hd
                  rw [d1] at e129
                  rw [d2] at e130
                  go_simp
                  refine hK _ _ ?_
                  exact ⟨hI, fun h => f0 h, fun h => f1 h, fun h => f2 h, fun _ => rfl, fun h => f4 h, fun h => f5 h, fun h => f6 h, fun h => f7 h, fun h => f8 h, fun h => f9 h, fun h => f10 h, fun h => f11 h, fun h => f12 h, fun h => f13 h⟩
                · intro L x a w K hL hd hf hx hΦ hK
                  obtain ⟨hI, f0, f1, f2, f3, f4, f5, f6, f7, f8, f9, f10, f11, f12, f13⟩ := hΦ
                  have d3 := f3 (hd 3 (by kernel_rfl))
                  have e131 : a.tmps[131]? = some (x 131) := hx 3 _ 131 rfl rfl (hd 3 (by kernel_rfl))
                  clear hf hx hd
                  rw [d3] at e131
                  go_simp
                  refine hK _ _ ?_
                  exact ⟨hI, fun h => f0 h, fun h => f1 h, fun h => f2 h, fun h => f3 h, fun _ => rfl, fun h => f5 h, fun h => f6 h, fun h => f7 h, fun h => f8 h, fun h => f9 h, fun h => f10 h, fun h => f11 h, fun h => f12 h, fun h => f13 h⟩
                · intro L x a w K hL hd hf hx hΦ hK
                  obtain ⟨hI, f0, f1, f2, f3, f4, f5, f6, f7, f8, f9, f10, f11, f12, f13⟩ := hΦ
                  have d4 := f4 (hd 4 (by kernel_rfl))
                  have e132 : a.tmps[132]? = some (x 132) := hx 4 _ 132 rfl rfl (hd 4 (by kernel_rfl))
                  clear hf hx hd
                  rw [d4] at e132
                  have wg := cell_then c0 hI
                  go_simp
                  refine hK _ _ ?_
                  exact ⟨hI, fun h => f0 h, fun h => f1 h, fun h => f2 h, fun h => f3 h, fun h => f4 h, fun _ => rfl, fun h => f6 h, fun h => f7 h, fun h => f8 h, fun h => f9 h, fun h => f10 h, fun h => f11 h, fun h => f12 h, fun h => f13 h⟩
                · intro L x a w K hL hd hf hx hΦ hK
                  obtain ⟨hI, f0, f1, f2, f3, f4, f5, f6, f7, f8, f9, f10, f11, f12, f13⟩ := hΦ
                  have e12 : a.tmps[12]? = some (.pointer (some ⟨PX, 0, none⟩)) := hf 12 (of_decide_eq_true (by kernel_rfl))
                  clear hf hx hd
                  have w0 := cell_then v10 hI
                  have w1 := cell_then v11 hI
                  have w2 := cell_then v12 hI
                  have w3 := cell_then v13 hI
                  have w4 := cell_then v14 hI
                  have w5 := cell_then v15 hI
                  have w6 := cell_then v16 hI
                  have w7 := cell_then v17 hI
                  go_simp
                  refine hK _ _ ?_
                  exact ⟨hI, fun h => f0 h, fun h => f1 h, fun h => f2 h, fun h => f3 h, fun h => f4 h, fun h => f5 h, fun _ => rfl, fun h => f7 h, fun h => f8 h, fun h => f9 h, fun h => f10 h, fun h => f11 h, fun h => f12 h, fun h => f13 h⟩
                · intro L x a w K hL hd hf hx hΦ hK
                  obtain ⟨hI, f0, f1, f2, f3, f4, f5, f6, f7, f8, f9, f10, f11, f12, f13⟩ := hΦ
                  have d0 := f0 (hd 0 (by kernel_rfl))
                  have e128 : a.tmps[128]? = some (x 128) := hx 0 _ 128 rfl rfl (hd 0 (by kernel_rfl))
                  have d5 := f5 (hd 5 (by kernel_rfl))
                  have e133 : a.tmps[133]? = some (x 133) := hx 5 _ 133 rfl rfl (hd 5 (by kernel_rfl))
                  have d6 := f6 (hd 6 (by kernel_rfl))
                  have e134 : a.tmps[134]? = some (x 134) := hx 6 _ 134 rfl rfl (hd 6 (by kernel_rfl))
                  clear hf hx hd
                  rw [d0] at e128
                  rw [d5] at e133
                  rw [d6] at e134
                  go_simp
                  go_at_call 24
                  with_reducible refine (HW4.out _ hI).mono ?_
                  rintro e w' ⟨q, rfl, hq8, hB8⟩
                  simp only
                  refine hK _ _ ?_
                  exact ⟨below_then hI hB8, fun h => f0 h, fun h => f1 h, fun h => f2 h, fun h => f3 h, fun h => f4 h, fun h => f5 h, fun h => f6 h, fun _ => ⟨q, w.heap.size, w'.heap.size, rfl, Nat.le_refl _, hq8, fun h B hB => by obtain ⟨B', z0, z1, z2, z3, z4, z5, z6, z7, h1, h2, h3⟩ := f11 h; cases h1.symm.trans hB; exact .inl (HK.blk_lt h3)⟩, fun h => absurd (f8 h).1 (by rw [hL]; decide), fun h => absurd (f9 h).1 (by rw [hL]; decide), fun h => f10 h, fun h => box_up hB8 (f11 h), fun h => absurd (f12 h).1 (by rw [hL]; decide), fun h => f13 h⟩
                · intro L x a w K hL hd hf hx hΦ hK
                  obtain ⟨hI, f0, f1, f2, f3, f4, f5, f6, f7, f8, f9, f10, f11, f12, f13⟩ := hΦ
                  have d7 := f7 (hd 7 (by kernel_rfl))
                  have e135 : a.tmps[135]? = some (x 135) := hx 7 _ 135 rfl rfl (hd 7 (by kernel_rfl))
                  have lc := hd 7 (by kernel_rfl)
                  clear hf hx hd
                  obtain ⟨q, lo, hi, hq, _⟩ := d7
                  have hCA := hq
                  rw [hq] at e135
                  go_simp
                  refine hK _ _ ?_
                  exact ⟨hI, fun h => f0 h, fun h => f1 h, fun h => f2 h, fun h => f3 h, fun h => f4 h, fun h => f5 h, fun h => f6 h, fun h => f7 h, fun _ => ⟨lc, q, rfl, hCA⟩, fun h => f9 h, fun h => f10 h, fun h => f11 h, fun h => f12 h, fun h => f13 h⟩
                · intro L x a w K hL hd hf hx hΦ hK
                  obtain ⟨hI, f0, f1, f2, f3, f4, f5, f6, f7, f8, f9, f10, f11, f12, f13⟩ := hΦ
                  have d8 := f8 (hd 8 (by kernel_rfl))
                  have e127 : a.tmps[127]? = some (x 127) := hx 8 _ 127 rfl rfl (hd 8 (by kernel_rfl))
                  clear hf hx hd
                  obtain ⟨lc, q, hq, hq2⟩ := d8
                  have hq3 := hq2.trans hq
                  rw [hq] at e127
                  go_simp
                  refine hK _ _ ?_
                  exact ⟨hI, fun h => f0 h, fun h => f1 h, fun h => f2 h, fun h => f3 h, fun h => f4 h, fun h => f5 h, fun h => f6 h, fun h => f7 h, fun h => f8 h, fun _ => ⟨lc, q, rfl, hq3⟩, fun h => f10 h, fun h => f11 h, fun h => f12 h, fun h => f13 h⟩
                · intro L x a w K hL hd hf hx hΦ hK
                  obtain ⟨hI, f0, f1, f2, f3, f4, f5, f6, f7, f8, f9, f10, f11, f12, f13⟩ := hΦ
                  have d8 := f8 (hd 8 (by kernel_rfl))
                  have e127 : a.tmps[127]? = some (x 127) := hx 8 _ 127 rfl rfl (hd 8 (by kernel_rfl))
                  clear hf hx hd
                  obtain ⟨lc, q, hq, hq2⟩ := d8
                  rw [hq] at e127
                  go_simp
                  refine hK _ _ ?_
                  exact ⟨hI, fun h => f0 h, fun h => f1 h, fun h => f2 h, fun h => f3 h, fun h => f4 h, fun h => f5 h, fun h => f6 h, fun h => f7 h, fun h => f8 h, fun h => f9 h, fun _ => rfl, fun h => f11 h, fun h => f12 h, fun h => f13 h⟩
                · intro L x a w K hL hd hf hx hΦ hK
                  obtain ⟨hI, f0, f1, f2, f3, f4, f5, f6, f7, f8, f9, f10, f11, f12, f13⟩ := hΦ
                  clear hf hx hd
                  go_simp
                  refine hK _ _ ?_
                  exact ⟨bl_al hI, fun h => f0 h, fun h => f1 h, fun h => f2 h, fun h => f3 h, fun h => f4 h, fun h => f5 h, fun h => f6 h, fun h => (f7 h).imp fun q h => h.imp fun lo h => h.imp fun hi h => ⟨h.1, Nat.le_trans h.2.1 (((Below.refl _ w).alloc (Nat.le_refl _) _)).size, h.2.2.1.turn fun b hb => ⟨hb, (((Below.refl _ w).alloc (Nat.le_refl _) _)).block b (by have := hb.2; have := h.2.1; omega)⟩, fun _ B hB => by cases hB; exact .inr h.2.1⟩, fun h => f8 h, fun h => f9 h, fun h => f10 h, fun _ => ⟨_, _, _, _, _, _, _, _, _, rfl, hI.size, HK.blk_new _ _⟩, fun h => absurd (f12 h).2.1 (by rw [hL]; decide), fun h => f13 h⟩
                · intro L x a w K hL hd hf hx hΦ hK
                  obtain ⟨hI, f0, f1, f2, f3, f4, f5, f6, f7, f8, f9, f10, f11, f12, f13⟩ := hΦ
                  have d9 := f9 (hd 9 (by kernel_rfl))
                  have e136 : a.tmps[136]? = some (x 136) := hx 9 _ 136 rfl rfl (hd 9 (by kernel_rfl))
                  have d11 := f11 (hd 11 (by kernel_rfl))
                  have e24 : a.tmps[24]? = some (x 24) := hx 11 _ 24 rfl rfl (hd 11 (by kernel_rfl))
                  have d7 := f7 (hd 7 (by kernel_rfl))
                  have lc := hd 7 (by kernel_rfl)
                  have la := hd 11 (by kernel_rfl)
                  clear hf hx hd
                  obtain ⟨lc2, q, hq, hq2⟩ := d9
                  obtain ⟨B, z0, z1, z2, z3, z4, z5, z6, z7, hb, hBl, hbx⟩ := d11
                  obtain ⟨q', lo, hi, hq3, hhi, hpq, hap⟩ := d7
                  have hqq : q' = q := by
                    have h9 := hq3.symm.trans hq2
                    obtain ⟨a1, a2, a3⟩ := q
                    obtain ⟨b1, b2, b3⟩ := q'
                    simpa using h9
                  subst hqq
                  have hap := hap la B hb
                  rw [hq] at e136
                  rw [hb] at e24
                  have c0 := HK.blk_cell hbx 0
                  have c1 := HK.blk_cell hbx 1
                  have c2 := HK.blk_cell hbx 2
                  have c3 := HK.blk_cell hbx 3
                  have c4 := HK.blk_cell hbx 4
                  have c5 := HK.blk_cell hbx 5
                  have c6 := HK.blk_cell hbx 6
                  have c7 := HK.blk_cell hbx 7
                  have cf := fun i => HK.blk_frozen hbx i
                  go_simp
                  have hF := set8_frm w B (.string r3) (.int .u8 ro3) (.string rm3) (.slice ra3 rb3 rd3) (.slice re3 rf3 rg3) (.int .i64 rl3) (.slice q'.a q'.n q'.c) (.slice rh3 ri3 rj3)
                  have hzF := hF.size
                  refine hK undef _ ?_
                  exact ⟨below_set8 hI hBl rfl, fun h => f0 h, fun h => f1 h, fun h => f2 h, fun h => f3 h, fun h => f4 h, fun h => f5 h, fun h => f6 h, fun h => ⟨q', lo, hi, hq3, Nat.le_trans hhi hzF, hpq.turn fun b hb9 => ⟨hb9, hF.block b (Nat.lt_of_lt_of_le hb9.2 hhi) (by rcases hap with h | h <;> omega)⟩, fun _ B' hB' => by cases hB'.symm.trans hb; exact hap⟩, fun h => f8 h, fun h => f9 h, fun h => f10 h, fun h => ⟨B, _, _, _, _, _, _, _, _, hb, hBl, set8 hbx _ _ _ _ _ _ _ _⟩, fun _ => ⟨lc, la, q', B, hb, set8 hbx _ _ _ _ _ _ _ _, (hpq.turn (T := fun b => b < _) fun b hb9 => ⟨Nat.lt_of_lt_of_le hb9.2 (Nat.le_trans hhi hzF), hF.block b (Nat.lt_of_lt_of_le hb9.2 hhi) (by rcases hap with h | h <;> omega)⟩).ps fun b hb9 => hb9⟩, fun h => f13 h⟩
                · intro L x a w K hL hd hf hx hΦ hK
                  obtain ⟨hI, f0, f1, f2, f3, f4, f5, f6, f7, f8, f9, f10, f11, f12, f13⟩ := hΦ
                  have d10 := f10 (hd 10 (by kernel_rfl))
                  have e137 : a.tmps[137]? = some (x 137) := hx 10 _ 137 rfl rfl (hd 10 (by kernel_rfl))
                  clear hf hx hd
                  rw [d10] at e137
                  go_simp
                  refine hK _ _ ?_
                  exact ⟨hI, fun h => f0 h, fun h => f1 h, fun h => f2 h, fun h => f3 h, fun h => f4 h, fun h => f5 h, fun h => f6 h, fun h => f7 h, fun h => f8 h, fun h => f9 h, fun h => f10 h, fun h => f11 h, fun h => f12 h, fun _ => rfl⟩
                · rintro x W ⟨hI, f0, f1, f2, f3, f4, f5, f6, f7, f8, f9, f10, f11, f12, f13⟩
                  obtain ⟨_, _, ⟨qa, qn, qc⟩, B, hb, hbx, hps⟩ := f12 (by kernel_rfl)
                  have hout := f13 (by kernel_rfl)
                  simp only [Exit.then]
                  go_step
                  go_meet
                  case rel => exact ⟨B, qa, qn, qc, hb, hout, hbx, hps, hI⟩
              case rest =>
                obtain ⟨D4, qa4, qn4, qc4, rfl, rfl, hnew, hnps, hBn⟩ := hcut
                obtain ⟨wb9, rfl⟩ : ∃ wb9 : World, wb9 = wc := ⟨_, rfl⟩
                have HBP_wb9 := Lib.hid ((hBn.block _ (HK.blk_lt HBP_wb8.out)).trans HBP_wb8.out)
                have HBPX_wb9 := Lib.hid ((hBn.block _ (HK.blk_lt HBPX_wb8.out)).trans HBPX_wb8.out)
                have HBPY_wb9 := Lib.hid ((hBn.block _ (HK.blk_lt HBPY_wb8.out)).trans HBPY_wb8.out)
                have HBD1_wb9 := Lib.hid ((hBn.block _ (HK.blk_lt HBD1_wb8.out)).trans HBD1_wb8.out)
                have HBD2_wb9 := Lib.hid ((hBn.block _ (HK.blk_lt HBD2_wb8.out)).trans HBD2_wb8.out)
                have HBD3_wb9 := Lib.hid ((hBn.block _ (HK.blk_lt HBD3_wb8.out)).trans HBD3_wb8.out)
                have HSP_wb9 := Lib.hid (HSP_wb8.out.up hBn)
                have HSPX_wb9 := Lib.hid (HSPX_wb8.out.up hBn)
                have HSPY_wb9 := Lib.hid (HSPY_wb8.out.up hBn)
                have HSD1_wb9 := Lib.hid (HSD1_wb8.out.up hBn)
                have HSD2_wb9 := Lib.hid (HSD2_wb8.out.up hBn)
                have HSD3_wb9 := Lib.hid (HSD3_wb8.out.up hBn)
                have HBD4_wb9 := Lib.hid hnew
                have HSD4_wb9 := Lib.hid hnps
                have HIA_wb9 := Lib.hid (HIA_wb8.out.below hBn)
                have HIK_wb9 := Lib.hid (HIK_wb8.out.below hBn)
                have HW5_wb9 := Lib.hid (below_then HW5_wb8.out hBn)
                replace c0 := cell_then c0 hBn
                replace e0 := cell_then e0 hBn
                clear hnew hnps hBn
                have hd3 : (cd3 = 0 ∧ measT b = true ∧ b = .node r3 ⟨ro3, rm3, ⟨ra3, rb3, rd3⟩, ⟨re3, rf3, rg3⟩, rl3, ⟨rh3, ri3, rj3⟩⟩ rs3) ∨ cd3 = 5 := by
                  have hr3 := HR3.out
                  rw [with_some HM1.out HL3.out] at hr3
                  split at hr3
                  · rename_i h
                    obtain ⟨h2, h3⟩ := Prod.mk.inj hr3
                    exact .inl ⟨h2, h, h3.symm⟩
                  · exact .inr (Prod.mk.inj hr3).1
                rcases hd3 with ⟨rfl, hm3, he3⟩ | rfl
                · subst he3
                  have hp3 := replT_plain hpy HP1.out HL3.out
                  have hz3 := replT_size HL3.out
                  have hz1 := replT_size HL1.out
                  have ha5 := fun (W : World) (hB : Below wb9.heap.size wb9 W) => at_new W (.node r3 ⟨ro3, rm3, ⟨ra3, rb3, rd3⟩, ⟨re3, rf3, rg3⟩, rl3, ⟨rh3, ri3, rj3⟩⟩ rs3) ⟨qa3, qn3, qc3⟩ ⟨pa1, pn1, pc1⟩ (natI pl1) (HSD3_wb9.out.up hB) (HIA_wb9.out.below hB) (by simp only [natI, List.length_map]; have := HLA.out; omega) (by omega) hp3
                  unfold RetWq at ha5
                  simp only [at_some hm3 HL5.out] at ha5
                  simp only [hxa2, hxs2] at ha5
                  simp only [PT.arr, PT.rule, PT.o, PT.subs, SL.v] at ha5
                  have HA5 := Lib.hid ha5
                  have HP3 := Lib.hid hp3
                  have HZ3 := Lib.hid hz3
                  have HZ1 := Lib.hid hz1
                  have HM3 := Lib.hid hm3
                  clear ha5 hp3 hz3 hz1 hm3
                  go_upto_region 19 with (fail)
                  go_cut [26, 27] from 148 to 157 (fun v c wx => ∃ (D : Nat) (qa5 : Option Addr) (qn5 qc5 : Nat), v = .pointer (some ⟨D, 0, none⟩) ∧ c = .int .i64 0 ∧ wx.heap[D]? = some (.cells #[.string xr, .int .u8 xo, .string xm, .slice ba bn bc, .slice da dn dc, .int .i64 xl, .slice qa5 qn5 qc5, .slice ea en ec] 30 (0, 0)) ∧ IsPs wx.heap.size wx ⟨qa5, qn5, qc5⟩ xs ∧ Below wb9.heap.size wb9 wx)
                  case first =>
                    have v00 : wb9.cell? ⟨D3, 0, none⟩ = some (.string r3) := HK.blk_cell HBD3_wb9.out 0
                    have v01 : wb9.cell? ⟨D3, 1, none⟩ = some (.int .u8 ro3) := HK.blk_cell HBD3_wb9.out 1
                    have v02 : wb9.cell? ⟨D3, 2, none⟩ = some (.string rm3) := HK.blk_cell HBD3_wb9.out 2
                    have v03 : wb9.cell? ⟨D3, 3, none⟩ = some (.slice ra3 rb3 rd3) := HK.blk_cell HBD3_wb9.out 3
                    have v04 : wb9.cell? ⟨D3, 4, none⟩ = some (.slice re3 rf3 rg3) := HK.blk_cell HBD3_wb9.out 4
                    have v05 : wb9.cell? ⟨D3, 5, none⟩ = some (.int .i64 rl3) := HK.blk_cell HBD3_wb9.out 5
                    have v06 : wb9.cell? ⟨D3, 6, none⟩ = some (.slice qa3 qn3 qc3) := HK.blk_cell HBD3_wb9.out 6
                    have v07 : wb9.cell? ⟨D3, 7, none⟩ = some (.slice rh3 ri3 rj3) := HK.blk_cell HBD3_wb9.out 7
                    refine Go.RE.wp_region_each [149, 150, 151, 152, 153, 154, 155, 148, 156, 157, 26, 27] (fun L x W => (Below wb9.heap.size wb9 W) ∧ (L 0 = true → x 149 = .agg #[.string r3, .int .u8 ro3, .string rm3, .slice ra3 rb3 rd3, .slice re3 rf3 rg3, .int .i64 rl3, .slice qa3 qn3 qc3, .slice rh3 ri3 rj3]) ∧ (L 1 = true → x 150 = .slice (some ⟨g, 0, none⟩) na gc) ∧ (L 2 = true → x 151 = .int .i64 i) ∧ (L 3 = true → x 152 = .pointer (some ⟨g, i * 2, none⟩)) ∧ (L 4 = true → x 153 = .pointer (some ⟨g, i * 2, none⟩)) ∧ (L 5 = true → x 154 = .slice pa1 pn1 pc1) ∧ (L 6 = true → ∃ (q : SL) (lo hi : Nat), x 155 = .tuple #[.agg #[.string xr, .int .u8 xo, .string xm, .slice ba bn bc, .slice da dn dc, .int .i64 xl, .slice q.a q.n q.c, .slice ea en ec], .int .i64 0] ∧ hi ≤ W.heap.size ∧ IsPq (fun kk => lo ≤ kk ∧ kk < hi) W q xs ∧ (L 10 = true → ∀ B, x 26 = .pointer (some ⟨B, 0, none⟩) → B < lo ∨ hi ≤ B)) ∧ (L 7 = true → L 6 = true ∧ ∃ q : SL, x 148 = .tuple #[.agg #[.string xr, .int .u8 xo, .string xm, .slice ba bn bc, .slice da dn dc, .int .i64 xl, .slice q.a q.n q.c, .slice ea en ec], .int .i64 0] ∧ x 155 = x 148) ∧ (L 8 = true → L 6 = true ∧ ∃ q : SL, x 156 = .agg #[.string xr, .int .u8 xo, .string xm, .slice ba bn bc, .slice da dn dc, .int .i64 xl, .slice q.a q.n q.c, .slice ea en ec] ∧ x 155 = .tuple #[.agg #[.string xr, .int .u8 xo, .string xm, .slice ba bn bc, .slice da dn dc, .int .i64 xl, .slice q.a q.n q.c, .slice ea en ec], .int .i64 0]) ∧ (L 9 = true → x 157 = .int .i64 0) ∧ (L 10 = true → ∃ B z0 z1 z2 z3 z4 z5 z6 z7, x 26 = .pointer (some ⟨B, 0, none⟩) ∧ wb9.heap.size ≤ B ∧ W.heap[B]? = some (.cells #[z0, z1, z2, z3, z4, z5, z6, z7] 30 (0, 0))) ∧ (L 11 = true → L 6 = true ∧ L 10 = true ∧ ∃ (q : SL) (B : Nat), x 26 = .pointer (some ⟨B, 0, none⟩) ∧ W.heap[B]? = some (.cells #[.string xr, .int .u8 xo, .string xm, .slice ba bn bc, .slice da dn dc, .int .i64 xl, .slice q.a q.n q.c, .slice ea en ec] 30 (0, 0)) ∧ IsPs W.heap.size W q xs) ∧ (L 12 = true → x 27 = .int .i64 0)) (by kernel_rfl) (by kernel_rfl) (by kernel_rfl) ?_ ((Go.RE.Each.cons ?_ (Go.RE.Each.cons ?_ (Go.RE.Each.cons ?_ (Go.RE.Each.cons ?_ (Go.RE.Each.cons ?_ (Go.RE.Each.cons ?_ (Go.RE.Each.cons ?_ (Go.RE.Each.cons ?_ (Go.RE.Each.cons ?_ (Go.RE.Each.cons ?_ (Go.RE.Each.cons ?_ (Go.RE.Each.cons ?_ (Go.RE.Each.cons ?_ Go.RE.Each.nil)))))))))))))) ?_
                    · exact fun x => ⟨bl_dr (Below.refl _ wb9), fun h => (by cases h), fun h => (by cases h), fun h => (by cases h), fun h => (by cases h), fun h => (by cases h), fun h => (by cases h), fun h => (by cases h), fun h => (by cases h), fun h => (by cases h), fun h => (by cases h), fun h => (by cases h), fun h => (by cases h), fun h => (by cases h)⟩
                    · intro L x a w K hL hd hf hx hΦ hK
                      obtain ⟨hI, f0, f1, f2, f3, f4, f5, f6, f7, f8, f9, f10, f11, f12⟩ := hΦ
                      have e22 : a.tmps[22]? = some (.pointer (some ⟨D3, 0, none⟩)) := hf 22 (of_decide_eq_true (by kernel_rfl))
                      clear hf hx hd
                      have w0 := cell_then v00 hI
                      have w1 := cell_then v01 hI
                      have w2 := cell_then v02 hI
                      have w3 := cell_then v03 hI
                      have w4 := cell_then v04 hI
                      have w5 := cell_then v05 hI
                      have w6 := cell_then v06 hI
                      have w7 := cell_then v07 hI
                      go_simp
                      refine hK _ _ ?_
                      exact ⟨hI, fun _ => rfl, fun h => f1 h, fun h => f2 h, fun h => f3 h, fun h => f4 h, fun h => f5 h, fun h => f6 h, fun h => f7 h, fun h => f8 h, fun h => f9 h, fun h => f10 h, fun h => f11 h, fun h => f12 h⟩
                    · intro L x a w K hL hd hf hx hΦ hK
                      obtain ⟨hI, f0, f1, f2, f3, f4, f5, f6, f7, f8, f9, f10, f11, f12⟩ := hΦ
                      have e14 : a.tmps[14]? = some (.slice (some ⟨g, 0, none⟩) na gc) := hf 14 (of_decide_eq_true (by kernel_rfl))
                      clear hf hx hd
                      go_simp
                      refine hK _ _ ?_
                      exact ⟨hI, fun h => f0 h, fun _ => rfl, fun h => f2 h, fun h => f3 h, fun h => f4 h, fun h => f5 h, fun h => f6 h, fun h => f7 h, fun h => f8 h, fun h => f9 h, fun h => f10 h, fun h => f11 h, fun h => f12 h⟩
                    · intro L x a w K hL hd hf hx hΦ hK
                      obtain ⟨hI, f0, f1, f2, f3, f4, f5, f6, f7, f8, f9, f10, f11, f12⟩ := hΦ
                      have e16 : a.tmps[16]? = some (.int .i64 i) := hf 16 (of_decide_eq_true (by kernel_rfl))
                      clear hf hx hd
                      go_simp
                      refine hK _ _ ?_
                      exact ⟨hI, fun h => f0 h, fun h => f1 h, fun _ => rfl, fun h => f3 h, fun h => f4 h, fun h => f5 h, fun h => f6 h, fun h => f7 h, fun h => f8 h, fun h => f9 h, fun h => f10 h, fun h => f11 h, fun h => f12 h⟩
                    · intro L x a w K hL hd hf hx hΦ hK
                      obtain ⟨hI, f0, f1, f2, f3, f4, f5, f6, f7, f8, f9, f10, f11, f12⟩ := hΦ
                      have d1 := f1 (hd 1 (by kernel_rfl))
                      have e150 : a.tmps[150]? = some (x 150) := hx 1 _ 150 rfl rfl (hd 1 (by kernel_rfl))
                      have d2 := f2 (hd 2 (by kernel_rfl))
                      have e151 : a.tmps[151]? = some (x 151) := hx 2 _ 151 rfl rfl (hd 2 (by kernel_rfl))
                      clear hf hx hd
                      rw [d1] at e150
                      rw [d2] at e151
                      go_simp
                      refine hK _ _ ?_
                      exact ⟨hI, fun h => f0 h, fun h => f1 h, fun h => f2 h, fun _ => rfl, fun h => f4 h, fun h => f5 h, fun h => f6 h, fun h => f7 h, fun h => f8 h, fun h => f9 h, fun h => f10 h, fun h => f11 h, fun h => f12 h⟩
                    · intro L x a w K hL hd hf hx hΦ hK
                      obtain ⟨hI, f0, f1, f2, f3, f4, f5, f6, f7, f8, f9, f10, f11, f12⟩ := hΦ
                      have d3 := f3 (hd 3 (by kernel_rfl))
                      have e152 : a.tmps[152]? = some (x 152) := hx 3 _ 152 rfl rfl (hd 3 (by kernel_rfl))
                      clear hf hx hd
                      rw [d3] at e152
                      go_simp
                      refine hK _ _ ?_
                      exact ⟨hI, fun h => f0 h, fun h => f1 h, fun h => f2 h, fun h => f3 h, fun _ => rfl, fun h => f5 h, fun h => f6 h, fun h => f7 h, fun h => f8 h, fun h => f9 h, fun h => f10 h, fun h => f11 h, fun h => f12 h⟩
                    · intro L x a w K hL hd hf hx hΦ hK
                      obtain ⟨hI, f0, f1, f2, f3, f4, f5, f6, f7, f8, f9, f10, f11, f12⟩ := hΦ
                      have d4 := f4 (hd 4 (by kernel_rfl))
                      have e153 : a.tmps[153]? = some (x 153) := hx 4 _ 153 rfl rfl (hd 4 (by kernel_rfl))
                      clear hf hx hd
                      rw [d4] at e153
                      have wg := cell_then c0 hI
                      go_simp
                      refine hK _ _ ?_
                      exact ⟨hI, fun h => f0 h, fun h => f1 h, fun h => f2 h, fun h => f3 h, fun h => f4 h, fun _ => rfl, fun h => f6 h, fun h => f7 h, fun h => f8 h, fun h => f9 h, fun h => f10 h, fun h => f11 h, fun h => f12 h⟩
                    · intro L x a w K hL hd hf hx hΦ hK
                      obtain ⟨hI, f0, f1, f2, f3, f4, f5, f6, f7, f8, f9, f10, f11, f12⟩ := hΦ
                      have d0 := f0 (hd 0 (by kernel_rfl))
                      have e149 : a.tmps[149]? = some (x 149) := hx 0 _ 149 rfl rfl (hd 0 (by kernel_rfl))
                      have d5 := f5 (hd 5 (by kernel_rfl))
                      have e154 : a.tmps[154]? = some (x 154) := hx 5 _ 154 rfl rfl (hd 5 (by kernel_rfl))
                      clear hf hx hd
                      rw [d0] at e149
                      rw [d5] at e154
                      go_simp
                      go_at_call 32
                      with_reducible refine (HA5.out _ hI).mono ?_
                      rintro e w' ⟨q, rfl, hq8, hB8⟩
                      simp only
                      refine hK _ _ ?_
                      exact ⟨below_then hI hB8, fun h => f0 h, fun h => f1 h, fun h => f2 h, fun h => f3 h, fun h => f4 h, fun h => f5 h, fun _ => ⟨q, w.heap.size, w'.heap.size, rfl, Nat.le_refl _, hq8, fun h B hB => by obtain ⟨B', z0, z1, z2, z3, z4, z5, z6, z7, h1, h2, h3⟩ := f10 h; cases h1.symm.trans hB; exact .inl (HK.blk_lt h3)⟩, fun h => absurd (f7 h).1 (by rw [hL]; decide), fun h => absurd (f8 h).1 (by rw [hL]; decide), fun h => f9 h, fun h => box_up hB8 (f10 h), fun h => absurd (f11 h).1 (by rw [hL]; decide), fun h => f12 h⟩
                    · intro L x a w K hL hd hf hx hΦ hK
                      obtain ⟨hI, f0, f1, f2, f3, f4, f5, f6, f7, f8, f9, f10, f11, f12⟩ := hΦ
                      have d6 := f6 (hd 6 (by kernel_rfl))
                      have e155 : a.tmps[155]? = some (x 155) := hx 6 _ 155 rfl rfl (hd 6 (by kernel_rfl))
                      have lc := hd 6 (by kernel_rfl)
                      clear hf hx hd
                      obtain ⟨q, lo, hi, hq, _⟩ := d6
                      have hCA := hq
                      rw [hq] at e155
                      go_simp
                      refine hK _ _ ?_
                      exact ⟨hI, fun h => f0 h, fun h => f1 h, fun h => f2 h, fun h => f3 h, fun h => f4 h, fun h => f5 h, fun h => f6 h, fun _ => ⟨lc, q, rfl, hCA⟩, fun h => f8 h, fun h => f9 h, fun h => f10 h, fun h => f11 h, fun h => f12 h⟩
                    · intro L x a w K hL hd hf hx hΦ hK
                      obtain ⟨hI, f0, f1, f2, f3, f4, f5, f6, f7, f8, f9, f10, f11, f12⟩ := hΦ
                      have d7 := f7 (hd 7 (by kernel_rfl))
                      have e148 : a.tmps[148]? = some (x 148) := hx 7 _ 148 rfl rfl (hd 7 (by kernel_rfl))
                      clear hf hx hd
                      obtain ⟨lc, q, hq, hq2⟩ := d7
                      have hq3 := hq2.trans hq
                      rw [hq] at e148
                      go_simp
                      refine hK _ _ ?_
                      exact ⟨hI, fun h => f0 h, fun h => f1 h, fun h => f2 h, fun h => f3 h, fun h => f4 h, fun h => f5 h, fun h => f6 h, fun h => f7 h, fun _ => ⟨lc, q, rfl, hq3⟩, fun h => f9 h, fun h => f10 h, fun h => f11 h, fun h => f12 h⟩
                    · intro L x a w K hL hd hf hx hΦ hK
                      obtain ⟨hI, f0, f1, f2, f3, f4, f5, f6, f7, f8, f9, f10, f11, f12⟩ := hΦ
                      have d7 := f7 (hd 7 (by kernel_rfl))
                      have e148 : a.tmps[148]? = some (x 148) := hx 7 _ 148 rfl rfl (hd 7 (by kernel_rfl))
                      clear hf hx hd
                      obtain ⟨lc, q, hq, hq2⟩ := d7
                      rw [hq] at e148
                      go_simp
                      refine hK _ _ ?_
                      exact ⟨hI, fun h => f0 h, fun h => f1 h, fun h => f2 h, fun h => f3 h, fun h => f4 h, fun h => f5 h, fun h => f6 h, fun h => f7 h, fun h => f8 h, fun _ => rfl, fun h => f10 h, fun h => f11 h, fun h => f12 h⟩
                    · intro L x a w K hL hd hf hx hΦ hK
                      obtain ⟨hI, f0, f1, f2, f3, f4, f5, f6, f7, f8, f9, f10, f11, f12⟩ := hΦ
                      clear hf hx hd
                      go_simp
                      refine hK _ _ ?_
                      exact ⟨bl_al hI, fun h => f0 h, fun h => f1 h, fun h => f2 h, fun h => f3 h, fun h => f4 h, fun h => f5 h, fun h => (f6 h).imp fun q h => h.imp fun lo h => h.imp fun hi h => ⟨h.1, Nat.le_trans h.2.1 (((Below.refl _ w).alloc (Nat.le_refl _) _)).size, h.2.2.1.turn fun b hb => ⟨hb, (((Below.refl _ w).alloc (Nat.le_refl _) _)).block b (by have := hb.2; have := h.2.1; omega)⟩, fun _ B hB => by cases hB; exact .inr h.2.1⟩, fun h => f7 h, fun h => f8 h, fun h => f9 h, fun _ => ⟨_, _, _, _, _, _, _, _, _, rfl, hI.size, HK.blk_new _ _⟩, fun h => absurd (f11 h).2.1 (by rw [hL]; decide), fun h => f12 h⟩
                    · intro L x a w K hL hd hf hx hΦ hK
                      obtain ⟨hI, f0, f1, f2, f3, f4, f5, f6, f7, f8, f9, f10, f11, f12⟩ := hΦ
                      have d8 := f8 (hd 8 (by kernel_rfl))
                      have e156 : a.tmps[156]? = some (x 156) := hx 8 _ 156 rfl rfl (hd 8 (by kernel_rfl))
                      have d10 := f10 (hd 10 (by kernel_rfl))
                      have e26 : a.tmps[26]? = some (x 26) := hx 10 _ 26 rfl rfl (hd 10 (by kernel_rfl))
                      have d6 := f6 (hd 6 (by kernel_rfl))
                      have lc := hd 6 (by kernel_rfl)
                      have la := hd 10 (by kernel_rfl)
                      clear hf hx hd
                      obtain ⟨lc2, q, hq, hq2⟩ := d8
                      obtain ⟨B, z0, z1, z2, z3, z4, z5, z6, z7, hb, hBl, hbx⟩ := d10
                      obtain ⟨q', lo, hi, hq3, hhi, hpq, hap⟩ := d6
                      have hqq : q' = q := by
                        have h9 := hq3.symm.trans hq2
                        obtain ⟨a1, a2, a3⟩ := q
                        obtain ⟨b1, b2, b3⟩ := q'
                        simpa using h9
                      subst hqq
                      have hap := hap la B hb
                      rw [hq] at e156
                      rw [hb] at e26
                      have c0 := HK.blk_cell hbx 0
                      have c1 := HK.blk_cell hbx 1
                      have c2 := HK.blk_cell hbx 2
                      have c3 := HK.blk_cell hbx 3
                      have c4 := HK.blk_cell hbx 4
                      have c5 := HK.blk_cell hbx 5
                      have c6 := HK.blk_cell hbx 6
                      have c7 := HK.blk_cell hbx 7
                      have cf := fun i => HK.blk_frozen hbx i
                      go_simp
                      have hF := set8_frm w B (.string xr) (.int .u8 xo) (.string xm) (.slice ba bn bc) (.slice da dn dc) (.int .i64 xl) (.slice q'.a q'.n q'.c) (.slice ea en ec)
                      have hzF := hF.size
                      refine hK undef _ ?_
                      exact ⟨below_set8 hI hBl rfl, fun h => f0 h, fun h => f1 h, fun h => f2 h, fun h => f3 h, fun h => f4 h, fun h => f5 h, fun h => ⟨q', lo, hi, hq3, Nat.le_trans hhi hzF, hpq.turn fun b hb9 => ⟨hb9, hF.block b (Nat.lt_of_lt_of_le hb9.2 hhi) (by rcases hap with h | h <;> omega)⟩, fun _ B' hB' => by cases hB'.symm.trans hb; exact hap⟩, fun h => f7 h, fun h => f8 h, fun h => f9 h, fun h => ⟨B, _, _, _, _, _, _, _, _, hb, hBl, set8 hbx _ _ _ _ _ _ _ _⟩, fun _ => ⟨lc, la, q', B, hb, set8 hbx _ _ _ _ _ _ _ _, (hpq.turn (T := fun b => b < _) fun b hb9 => ⟨Nat.lt_of_lt_of_le hb9.2 (Nat.le_trans hhi hzF), hF.block b (Nat.lt_of_lt_of_le hb9.2 hhi) (by rcases hap with h | h <;> omega)⟩).ps fun b hb9 => hb9⟩, fun h => f12 h⟩
                    · intro L x a w K hL hd hf hx hΦ hK
                      obtain ⟨hI, f0, f1, f2, f3, f4, f5, f6, f7, f8, f9, f10, f11, f12⟩ := hΦ
                      have d9 := f9 (hd 9 (by kernel_rfl))
                      have e157 : a.tmps[157]? = some (x 157) := hx 9 _ 157 rfl rfl (hd 9 (by kernel_rfl))
                      clear hf hx hd
                      rw [d9] at e157
                      go_simp
                      refine hK _ _ ?_
                      exact ⟨hI, fun h => f0 h, fun h => f1 h, fun h => f2 h, fun h => f3 h, fun h => f4 h, fun h => f5 h, fun h => f6 h, fun h => f7 h, fun h => f8 h, fun h => f9 h, fun h => f10 h, fun h => f11 h, fun _ => rfl⟩
                    · rintro x W ⟨hI, f0, f1, f2, f3, f4, f5, f6, f7, f8, f9, f10, f11, f12⟩
                      obtain ⟨_, _, ⟨qa, qn, qc⟩, B, hb, hbx, hps⟩ := f11 (by kernel_rfl)
                      have hout := f12 (by kernel_rfl)
                      simp only [Exit.then]
                      go_step
                      go_meet
                      case rel => exact ⟨B, qa, qn, qc, hb, hout, hbx, hps, hI⟩
                  case rest =>
                    obtain ⟨D5, qa5, qn5, qc5, rfl, rfl, hnew, hnps, hBn⟩ := hcut
                    obtain ⟨wba, rfl⟩ : ∃ wba : World, wba = wc := ⟨_, rfl⟩
                    have HBP_wba := Lib.hid ((hBn.block _ (HK.blk_lt HBP_wb9.out)).trans HBP_wb9.out)
                    have HBPX_wba := Lib.hid ((hBn.block _ (HK.blk_lt HBPX_wb9.out)).trans HBPX_wb9.out)
                    have HBPY_wba := Lib.hid ((hBn.block _ (HK.blk_lt HBPY_wb9.out)).trans HBPY_wb9.out)
                    have HBD1_wba := Lib.hid ((hBn.block _ (HK.blk_lt HBD1_wb9.out)).trans HBD1_wb9.out)
                    have HBD2_wba := Lib.hid ((hBn.block _ (HK.blk_lt HBD2_wb9.out)).trans HBD2_wb9.out)
                    have HBD3_wba := Lib.hid ((hBn.block _ (HK.blk_lt HBD3_wb9.out)).trans HBD3_wb9.out)
                    have HBD4_wba := Lib.hid ((hBn.block _ (HK.blk_lt HBD4_wb9.out)).trans HBD4_wb9.out)
                    have HSP_wba := Lib.hid (HSP_wb9.out.up hBn)
                    have HSPX_wba := Lib.hid (HSPX_wb9.out.up hBn)
                    have HSPY_wba := Lib.hid (HSPY_wb9.out.up hBn)
                    have HSD1_wba := Lib.hid (HSD1_wb9.out.up hBn)
                    have HSD2_wba := Lib.hid (HSD2_wb9.out.up hBn)
                    have HSD3_wba := Lib.hid (HSD3_wb9.out.up hBn)
                    have HSD4_wba := Lib.hid (HSD4_wb9.out.up hBn)
                    have HBD5_wba := Lib.hid hnew
                    have HSD5_wba := Lib.hid hnps
                    have HIA_wba := Lib.hid (HIA_wb9.out.below hBn)
                    have HIK_wba := Lib.hid (HIK_wb9.out.below hBn)
                    have HW5_wba := Lib.hid (below_then HW5_wb9.out hBn)
                    replace c0 := cell_then c0 hBn
                    replace e0 := cell_then e0 hBn
                    clear hnew hnps hBn
                    have ha6 := fun (W : World) (hB : Below wba.heap.size wba W) => at_new W (.node r3 ⟨ro3, rm3, ⟨ra3, rb3, rd3⟩, ⟨re3, rf3, rg3⟩, rl3, ⟨rh3, ri3, rj3⟩⟩ rs3) ⟨qa3, qn3, qc3⟩ ⟨pa2, pn2, pc2⟩ (natI pl2) (HSD3_wba.out.up hB) (HIK_wba.out.below hB) (by simp only [natI, List.length_map]; have := HLK.out; omega) (by have := HZ3.out; have := HZ1.out; omega) HP3.out
                    unfold RetWq at ha6
                    simp only [at_some HM3.out HL6.out] at ha6
                    simp only [hya2, hys2] at ha6
                    simp only [PT.arr, PT.rule, PT.o, PT.subs, SL.v] at ha6
                    have HA6 := Lib.hid ha6
                    clear ha6
                    go_upto_region 20 with (fail)
                    go_cut [28, 29] from 158 to 167 (fun v c wx => ∃ (D : Nat) (qa6 : Option Addr) (qn6 qc6 : Nat), v = .pointer (some ⟨D, 0, none⟩) ∧ c = .int .i64 0 ∧ wx.heap[D]? = some (.cells #[.string yr, .int .u8 yo, .string ym, .slice ia i2 ic, .slice ja jn jc, .int .i64 yl, .slice qa6 qn6 qc6, .slice ka kn kc] 30 (0, 0)) ∧ IsPs wx.heap.size wx ⟨qa6, qn6, qc6⟩ ys ∧ Below wba.heap.size wba wx)
                    case first =>
                      have v00 : wba.cell? ⟨D3, 0, none⟩ = some (.string r3) := HK.blk_cell HBD3_wba.out 0
                      have v01 : wba.cell? ⟨D3, 1, none⟩ = some (.int .u8 ro3) := HK.blk_cell HBD3_wba.out 1
                      have v02 : wba.cell? ⟨D3, 2, none⟩ = some (.string rm3) := HK.blk_cell HBD3_wba.out 2
                      have v03 : wba.cell? ⟨D3, 3, none⟩ = some (.slice ra3 rb3 rd3) := HK.blk_cell HBD3_wba.out 3
                      have v04 : wba.cell? ⟨D3, 4, none⟩ = some (.slice re3 rf3 rg3) := HK.blk_cell HBD3_wba.out 4
                      have v05 : wba.cell? ⟨D3, 5, none⟩ = some (.int .i64 rl3) := HK.blk_cell HBD3_wba.out 5
                      have v06 : wba.cell? ⟨D3, 6, none⟩ = some (.slice qa3 qn3 qc3) := HK.blk_cell HBD3_wba.out 6
                      have v07 : wba.cell? ⟨D3, 7, none⟩ = some (.slice rh3 ri3 rj3) := HK.blk_cell HBD3_wba.out 7
                      refine Go.RE.wp_region_each [159, 160, 161, 162, 163, 164, 165, 158, 166, 167, 28, 29] (fun L x W => (Below wba.heap.size wba W) ∧ (L 0 = true → x 159 = .agg #[.string r3, .int .u8 ro3, .string rm3, .slice ra3 rb3 rd3, .slice re3 rf3 rg3, .int .i64 rl3, .slice qa3 qn3 qc3, .slice rh3 ri3 rj3]) ∧ (L 1 = true → x 160 = .slice (some ⟨g, 0, none⟩) na gc) ∧ (L 2 = true → x 161 = .int .i64 k) ∧ (L 3 = true → x 162 = .pointer (some ⟨g, k * 2, none⟩)) ∧ (L 4 = true → x 163 = .pointer (some ⟨g, k * 2, none⟩)) ∧ (L 5 = true → x 164 = .slice pa2 pn2 pc2) ∧ (L 6 = true → ∃ (q : SL) (lo hi : Nat), x 165 = .tuple #[.agg #[.string yr, .int .u8 yo, .string ym, .slice ia i2 ic, .slice ja jn jc, .int .i64 yl, .slice q.a q.n q.c, .slice ka kn kc], .int .i64 0] ∧ hi ≤ W.heap.size ∧ IsPq (fun kk => lo ≤ kk ∧ kk < hi) W q ys ∧ (L 10 = true → ∀ B, x 28 = .pointer (some ⟨B, 0, none⟩) → B < lo ∨ hi ≤ B)) ∧ (L 7 = true → L 6 = true ∧ ∃ q : SL, x 158 = .tuple #[.agg #[.string yr, .int .u8 yo, .string ym, .slice ia i2 ic, .slice ja jn jc, .int .i64 yl, .slice q.a q.n q.c, .slice ka kn kc], .int .i64 0] ∧ x 165 = x 158) ∧ (L 8 = true → L 6 = true ∧ ∃ q : SL, x 166 = .agg #[.string yr, .int .u8 yo, .string ym, .slice ia i2 ic, .slice ja jn jc, .int .i64 yl, .slice q.a q.n q.c, .slice ka kn kc] ∧ x 165 = .tuple #[.agg #[.string yr, .int .u8 yo, .string ym, .slice ia i2 ic, .slice ja jn jc, .int .i64 yl, .slice q.a q.n q.c, .slice ka kn kc], .int .i64 0]) ∧ (L 9 = true → x 167 = .int .i64 0) ∧ (L 10 = true → ∃ B z0 z1 z2 z3 z4 z5 z6 z7, x 28 = .pointer (some ⟨B, 0, none⟩) ∧ wba.heap.size ≤ B ∧ W.heap[B]? = some (.cells #[z0, z1, z2, z3, z4, z5, z6, z7] 30 (0, 0))) ∧ (L 11 = true → L 6 = true ∧ L 10 = true ∧ ∃ (q : SL) (B : Nat), x 28 = .pointer (some ⟨B, 0, none⟩) ∧ W.heap[B]? = some (.cells #[.string yr, .int .u8 yo, .string ym, .slice ia i2 ic, .slice ja jn jc, .int .i64 yl, .slice q.a q.n q.c, .slice ka kn kc] 30 (0, 0)) ∧ IsPs W.heap.size W q ys) ∧ (L 12 = true → x 29 = .int .i64 0)) (by kernel_rfl) (by kernel_rfl) (by kernel_rfl) ?_ ((Go.RE.Each.cons ?_ (Go.RE.Each.cons ?_ (Go.RE.Each.cons ?_ (Go.RE.Each.cons ?_ (Go.RE.Each.cons ?_ (Go.RE.Each.cons ?_ (Go.RE.Each.cons ?_ (Go.RE.Each.cons ?_ (Go.RE.Each.cons ?_ (Go.RE.Each.cons ?_ (Go.RE.Each.cons ?_ (Go.RE.Each.cons ?_ (Go.RE.Each.cons ?_ Go.RE.Each.nil)))))))))))))) ?_
                      · exact fun x => ⟨bl_dr (Below.refl _ wba), fun h => (by cases h), fun h => (by cases h), fun h => (by cases h), fun h => (by cases h), fun h => (by cases h), fun h => (by cases h), fun h => (by cases h), fun h => (by cases h), fun h => (by cases h), fun h => (by cases h), fun h => (by cases h), fun h => (by cases h), fun h => (by cases h)⟩
                      · intro L x a w K hL hd hf hx hΦ hK
                        obtain ⟨hI, f0, f1, f2, f3, f4, f5, f6, f7, f8, f9, f10, f11, f12⟩ := hΦ
                        have e22 : a.tmps[22]? = some (.pointer (some ⟨D3, 0, none⟩)) := hf 22 (of_decide_eq_true (by kernel_rfl))
                        clear hf hx hd
                        have w0 := cell_then v00 hI
                        have w1 := cell_then v01 hI
                        have w2 := cell_then v02 hI
                        have w3 := cell_then v03 hI
                        have w4 := cell_then v04 hI
                        have w5 := cell_then v05 hI
                        have w6 := cell_then v06 hI
                        have w7 := cell_then v07 hI
                        go_simp
                        refine hK _ _ ?_
                        exact ⟨hI, fun _ => rfl, fun h => f1 h, fun h => f2 h, fun h => f3 h, fun h => f4 h, fun h => f5 h, fun h => f6 h, fun h => f7 h, fun h => f8 h, fun h => f9 h, fun h => f10 h, fun h => f11 h, fun h => f12 h⟩
                      · intro L x a w K hL hd hf hx hΦ hK
                        obtain ⟨hI, f0, f1, f2, f3, f4, f5, f6, f7, f8, f9, f10, f11, f12⟩ := hΦ
                        have e14 : a.tmps[14]? = some (.slice (some ⟨g, 0, none⟩) na gc) := hf 14 (of_decide_eq_true (by kernel_rfl))
                        clear hf hx hd
                        go_simp
                        refine hK _ _ ?_
                        exact ⟨hI, fun h => f0 h, fun _ => rfl, fun h => f2 h, fun h => f3 h, fun h => f4 h, fun h => f5 h, fun h => f6 h, fun h => f7 h, fun h => f8 h, fun h => f9 h, fun h => f10 h, fun h => f11 h, fun h => f12 h⟩
                      · intro L x a w K hL hd hf hx hΦ hK
                        obtain ⟨hI, f0, f1, f2, f3, f4, f5, f6, f7, f8, f9, f10, f11, f12⟩ := hΦ
                        have e17 : a.tmps[17]? = some (.int .i64 k) := hf 17 (of_decide_eq_true (by kernel_rfl))
                        clear hf hx hd
                        go_simp
                        refine hK _ _ ?_
                        exact ⟨hI, fun h => f0 h, fun h => f1 h, fun _ => rfl, fun h => f3 h, fun h => f4 h, fun h => f5 h, fun h => f6 h, fun h => f7 h, fun h => f8 h, fun h => f9 h, fun h => f10 h, fun h => f11 h, fun h => f12 h⟩
                      · intro L x a w K hL hd hf hx hΦ hK
                        obtain ⟨hI, f0, f1, f2, f3, f4, f5, f6, f7, f8, f9, f10, f11, f12⟩ := hΦ
                        have d1 := f1 (hd 1 (by kernel_rfl))
                        have e160 : a.tmps[160]? = some (x 160) := hx 1 _ 160 rfl rfl (hd 1 (by kernel_rfl))
                        have d2 := f2 (hd 2 (by kernel_rfl))
                        have e161 : a.tmps[161]? = some (x 161) := hx 2 _ 161 rfl rfl (hd 2 (by kernel_rfl))
                        clear hf hx hd
                        rw [d1] at e160
                        rw [d2] at e161
                        go_simp
                        refine hK _ _ ?_
                        exact ⟨hI, fun h => f0 h, fun h => f1 h, fun h => f2 h, fun _ => rfl, fun h => f4 h, fun h => f5 h, fun h => f6 h, fun h => f7 h, fun h => f8 h, fun h => f9 h, fun h => f10 h, fun h => f11 h, fun h => f12 h⟩
                      · intro L x a w K hL hd hf hx hΦ hK
                        obtain ⟨hI, f0, f1, f2, f3, f4, f5, f6, f7, f8, f9, f10, f11, f12⟩ := hΦ
                        have d3 := f3 (hd 3 (by kernel_rfl))
                        have e162 : a.tmps[162]? = some (x 162) := hx 3 _ 162 rfl rfl (hd 3 (by kernel_rfl))
                        clear hf hx hd
                        rw [d3] at e162
                        go_simp
                        refine hK _ _ ?_
                        exact ⟨hI, fun h => f0 h, fun h => f1 h, fun h => f2 h, fun h => f3 h, fun _ => rfl, fun h => f5 h, fun h => f6 h, fun h => f7 h, fun h => f8 h, fun h => f9 h, fun h => f10 h, fun h => f11 h, fun h => f12 h⟩
                      · intro L x a w K hL hd hf hx hΦ hK
                        obtain ⟨hI, f0, f1, f2, f3, f4, f5, f6, f7, f8, f9, f10, f11, f12⟩ := hΦ
                        have d4 := f4 (hd 4 (by kernel_rfl))
                        have e163 : a.tmps[163]? = some (x 163) := hx 4 _ 163 rfl rfl (hd 4 (by kernel_rfl))
                        clear hf hx hd
                        rw [d4] at e163
                        have wg := cell_then e0 hI
                        go_simp
                        refine hK _ _ ?_
                        exact ⟨hI, fun h => f0 h, fun h => f1 h, fun h => f2 h, fun h => f3 h, fun h => f4 h, fun _ => rfl, fun h => f6 h, fun h => f7 h, fun h => f8 h, fun h => f9 h, fun h => f10 h, fun h => f11 h, fun h => f12 h⟩
                      · intro L x a w K hL hd hf hx hΦ hK
                        obtain ⟨hI, f0, f1, f2, f3, f4, f5, f6, f7, f8, f9, f10, f11, f12⟩ := hΦ
                        have d0 := f0 (hd 0 (by kernel_rfl))
                        have e159 : a.tmps[159]? = some (x 159) := hx 0 _ 159 rfl rfl (hd 0 (by kernel_rfl))
                        have d5 := f5 (hd 5 (by kernel_rfl))
                        have e164 : a.tmps[164]? = some (x 164) := hx 5 _ 164 rfl rfl (hd 5 (by kernel_rfl))
                        clear hf hx hd
                        rw [d0] at e159
                        rw [d5] at e164
                        go_simp
                        go_at_call 32
                        with_reducible refine (HA6.out _ hI).mono ?_
                        rintro e w' ⟨q, rfl, hq8, hB8⟩
                        simp only
                        refine hK _ _ ?_
                        exact ⟨below_then hI hB8, fun h => f0 h, fun h => f1 h, fun h => f2 h, fun h => f3 h, fun h => f4 h, fun h => f5 h, fun _ => ⟨q, w.heap.size, w'.heap.size, rfl, Nat.le_refl _, hq8, fun h B hB => by obtain ⟨B', z0, z1, z2, z3, z4, z5, z6, z7, h1, h2, h3⟩ := f10 h; cases h1.symm.trans hB; exact .inl (HK.blk_lt h3)⟩, fun h => absurd (f7 h).1 (by rw [hL]; decide), fun h => absurd (f8 h).1 (by rw [hL]; decide), fun h => f9 h, fun h => box_up hB8 (f10 h), fun h => absurd (f11 h).1 (by rw [hL]; decide), fun h => f12 h⟩
                      · intro L x a w K hL hd hf hx hΦ hK
                        obtain ⟨hI, f0, f1, f2, f3, f4, f5, f6, f7, f8, f9, f10, f11, f12⟩ := hΦ
                        have d6 := f6 (hd 6 (by kernel_rfl))
                        have e165 : a.tmps[165]? = some (x 165) := hx 6 _ 165 rfl rfl (hd 6 (by kernel_rfl))
                        have lc := hd 6 (by kernel_rfl)
                        clear hf hx hd
                        obtain ⟨q, lo, hi, hq, _⟩ := d6
                        have hCA := hq
                        rw [hq] at e165
                        go_simp
                        refine hK _ _ ?_
                        exact ⟨hI, fun h => f0 h, fun h => f1 h, fun h => f2 h, fun h => f3 h, fun h => f4 h, fun h => f5 h, fun h => f6 h, fun _ => ⟨lc, q, rfl, hCA⟩, fun h => f8 h, fun h => f9 h, fun h => f10 h, fun h => f11 h, fun h => f12 h⟩
                      · intro L x a w K hL hd hf hx hΦ hK
                        obtain ⟨hI, f0, f1, f2, f3, f4, f5, f6, f7, f8, f9, f10, f11, f12⟩ := hΦ
                        have d7 := f7 (hd 7 (by kernel_rfl))
                        have e158 : a.tmps[158]? = some (x 158) := hx 7 _ 158 rfl rfl (hd 7 (by kernel_rfl))
                        clear hf hx hd
                        obtain ⟨lc, q, hq, hq2⟩ := d7
                        have hq3 := hq2.trans hq
                        rw [hq] at e158
                        go_simp
                        refine hK _ _ ?_
                        exact ⟨hI, fun h => f0 h, fun h => f1 h, fun h => f2 h, fun h => f3 h, fun h => f4 h, fun h => f5 h, fun h => f6 h, fun h => f7 h, fun _ => ⟨lc, q, rfl, hq3⟩, fun h => f9 h, fun h => f10 h, fun h => f11 h, fun h => f12 h⟩
                      · intro L x a w K hL hd hf hx hΦ hK
                        obtain ⟨hI, f0, f1, f2, f3, f4, f5, f6, f7, f8, f9, f10, f11, f12⟩ := hΦ
                        have d7 := f7 (hd 7 (by kernel_rfl))
                        have e158 : a.tmps[158]? = some (x 158) := hx 7 _ 158 rfl rfl (hd 7 (by kernel_rfl))
                        clear hf hx hd
                        obtain ⟨lc, q, hq, hq2⟩ := d7
                        rw [hq] at e158
                        go_simp
                        refine hK _ _ ?_
                        exact ⟨hI, fun h => f0 h, fun h => f1 h, fun h => f2 h, fun h => f3 h, fun h => f4 h, fun h => f5 h, fun h => f6 h, fun h => f7 h, fun h => f8 h, fun _ => rfl, fun h => f10 h, fun h => f11 h, fun h => f12 h⟩
                      · intro L x a w K hL hd hf hx hΦ hK
                        obtain ⟨hI, f0, f1, f2, f3, f4, f5, f6, f7, f8, f9, f10, f11, f12⟩ := hΦ
                        clear hf hx hd
                        go_simp
                        refine hK _ _ ?_
                        exact ⟨bl_al hI, fun h => f0 h, fun h => f1 h, fun h => f2 h, fun h => f3 h, fun h => f4 h, fun h => f5 h, fun h => (f6 h).imp fun q h => h.imp fun lo h => h.imp fun hi h => ⟨h.1, Nat.le_trans h.2.1 (((Below.refl _ w).alloc (Nat.le_refl _) _)).size, h.2.2.1.turn fun b hb => ⟨hb, (((Below.refl _ w).alloc (Nat.le_refl _) _)).block b (by have := hb.2; have := h.2.1; omega)⟩, fun _ B hB => by cases hB; exact .inr h.2.1⟩, fun h => f7 h, fun h => f8 h, fun h => f9 h, fun _ => ⟨_, _, _, _, _, _, _, _, _, rfl, hI.size, HK.blk_new _ _⟩, fun h => absurd (f11 h).2.1 (by rw [hL]; decide), fun h => f12 h⟩
                      · intro L x a w K hL hd hf hx hΦ hK
                        obtain ⟨hI, f0, f1, f2, f3, f4, f5, f6, f7, f8, f9, f10, f11, f12⟩ := hΦ
                        have d8 := f8 (hd 8 (by kernel_rfl))
                        have e166 : a.tmps[166]? = some (x 166) := hx 8 _ 166 rfl rfl (hd 8 (by kernel_rfl))
                        have d10 := f10 (hd 10 (by kernel_rfl))
                        have e28 : a.tmps[28]? = some (x 28) := hx 10 _ 28 rfl rfl (hd 10 (by kernel_rfl))
                        have d6 := f6 (hd 6 (by kernel_rfl))
                        have lc := hd 6 (by kernel_rfl)
                        have la := hd 10 (by kernel_rfl)
                        clear hf hx hd
                        obtain ⟨lc2, q, hq, hq2⟩ := d8
                        obtain ⟨B, z0, z1, z2, z3, z4, z5, z6, z7, hb, hBl, hbx⟩ := d10
                        obtain ⟨q', lo, hi, hq3, hhi, hpq, hap⟩ := d6
                        have hqq : q' = q := by
                          have h9 := hq3.symm.trans hq2
                          obtain ⟨a1, a2, a3⟩ := q
                          obtain ⟨b1, b2, b3⟩ := q'
                          simpa using h9
                        subst hqq
                        have hap := hap la B hb
                        rw [hq] at e166
                        rw [hb] at e28
                        have c0 := HK.blk_cell hbx 0
                        have c1 := HK.blk_cell hbx 1
                        have c2 := HK.blk_cell hbx 2
                        have c3 := HK.blk_cell hbx 3
                        have c4 := HK.blk_cell hbx 4
                        have c5 := HK.blk_cell hbx 5
                        have c6 := HK.blk_cell hbx 6
                        have c7 := HK.blk_cell hbx 7
                        have cf := fun i => HK.blk_frozen hbx i
                        go_simp
                        have hF := set8_frm w B (.string yr) (.int .u8 yo) (.string ym) (.slice ia i2 ic) (.slice ja jn jc) (.int .i64 yl) (.slice q'.a q'.n q'.c) (.slice ka kn kc)
                        have hzF := hF.size
                        refine hK undef _ ?_
                        exact ⟨below_set8 hI hBl rfl, fun h => f0 h, fun h => f1 h, fun h => f2 h, fun h => f3 h, fun h => f4 h, fun h => f5 h, fun h => ⟨q', lo, hi, hq3, Nat.le_trans hhi hzF, hpq.turn fun b hb9 => ⟨hb9, hF.block b (Nat.lt_of_lt_of_le hb9.2 hhi) (by rcases hap with h | h <;> omega)⟩, fun _ B' hB' => by cases hB'.symm.trans hb; exact hap⟩, fun h => f7 h, fun h => f8 h, fun h => f9 h, fun h => ⟨B, _, _, _, _, _, _, _, _, hb, hBl, set8 hbx _ _ _ _ _ _ _ _⟩, fun _ => ⟨lc, la, q', B, hb, set8 hbx _ _ _ _ _ _ _ _, (hpq.turn (T := fun b => b < _) fun b hb9 => ⟨Nat.lt_of_lt_of_le hb9.2 (Nat.le_trans hhi hzF), hF.block b (Nat.lt_of_lt_of_le hb9.2 hhi) (by rcases hap with h | h <;> omega)⟩).ps fun b hb9 => hb9⟩, fun h => f12 h⟩
                      · intro L x a w K hL hd hf hx hΦ hK
                        obtain ⟨hI, f0, f1, f2, f3, f4, f5, f6, f7, f8, f9, f10, f11, f12⟩ := hΦ
                        have d9 := f9 (hd 9 (by kernel_rfl))
                        have e167 : a.tmps[167]? = some (x 167) := hx 9 _ 167 rfl rfl (hd 9 (by kernel_rfl))
                        clear hf hx hd
                        rw [d9] at e167
                        go_simp
                        refine hK _ _ ?_
                        exact ⟨hI, fun h => f0 h, fun h => f1 h, fun h => f2 h, fun h => f3 h, fun h => f4 h, fun h => f5 h, fun h => f6 h, fun h => f7 h, fun h => f8 h, fun h => f9 h, fun h => f10 h, fun h => f11 h, fun _ => rfl⟩
                      · rintro x W ⟨hI, f0, f1, f2, f3, f4, f5, f6, f7, f8, f9, f10, f11, f12⟩
                        obtain ⟨_, _, ⟨qa, qn, qc⟩, B, hb, hbx, hps⟩ := f11 (by kernel_rfl)
                        have hout := f12 (by kernel_rfl)
                        simp only [Exit.then]
                        go_step
                        go_meet
                        case rel => exact ⟨B, qa, qn, qc, hb, hout, hbx, hps, hI⟩
                    case rest =>
                      obtain ⟨D6, qa6, qn6, qc6, rfl, rfl, hnew, hnps, hBn⟩ := hcut
                      obtain ⟨wbb, rfl⟩ : ∃ wbb : World, wbb = wc := ⟨_, rfl⟩
                      have HBP_wbb := Lib.hid ((hBn.block _ (HK.blk_lt HBP_wba.out)).trans HBP_wba.out)
                      have HBPX_wbb := Lib.hid ((hBn.block _ (HK.blk_lt HBPX_wba.out)).trans HBPX_wba.out)
                      have HBPY_wbb := Lib.hid ((hBn.block _ (HK.blk_lt HBPY_wba.out)).trans HBPY_wba.out)
                      have HBD1_wbb := Lib.hid ((hBn.block _ (HK.blk_lt HBD1_wba.out)).trans HBD1_wba.out)
                      have HBD2_wbb := Lib.hid ((hBn.block _ (HK.blk_lt HBD2_wba.out)).trans HBD2_wba.out)
                      have HBD3_wbb := Lib.hid ((hBn.block _ (HK.blk_lt HBD3_wba.out)).trans HBD3_wba.out)
                      have HBD4_wbb := Lib.hid ((hBn.block _ (HK.blk_lt HBD4_wba.out)).trans HBD4_wba.out)
                      have HBD5_wbb := Lib.hid ((hBn.block _ (HK.blk_lt HBD5_wba.out)).trans HBD5_wba.out)
                      have HSP_wbb := Lib.hid (HSP_wba.out.up hBn)
                      have HSPX_wbb := Lib.hid (HSPX_wba.out.up hBn)
                      have HSPY_wbb := Lib.hid (HSPY_wba.out.up hBn)
                      have HSD1_wbb := Lib.hid (HSD1_wba.out.up hBn)
                      have HSD2_wbb := Lib.hid (HSD2_wba.out.up hBn)
                      have HSD3_wbb := Lib.hid (HSD3_wba.out.up hBn)
                      have HSD4_wbb := Lib.hid (HSD4_wba.out.up hBn)
                      have HSD5_wbb := Lib.hid (HSD5_wba.out.up hBn)
                      have HBD6_wbb := Lib.hid hnew
                      have HSD6_wbb := Lib.hid hnps
                      have HIA_wbb := Lib.hid (HIA_wba.out.below hBn)
                      have HIK_wbb := Lib.hid (HIK_wba.out.below hBn)
                      have HW5_wbb := Lib.hid (below_then HW5_wba.out hBn)
                      replace c0 := cell_then c0 hBn
                      replace e0 := cell_then e0 hBn
                      clear hnew hnps hBn
                      have hg7 := goals_at (W := wbb) (t := (.node r3 ⟨ro3, rm3, ⟨ra3, rb3, rd3⟩, ⟨re3, rf3, rg3⟩, rl3, ⟨rh3, ri3, rj3⟩⟩ rs3)) (sv := ⟨qa3, qn3, qc3⟩) (s := SL.nil) (ps := []) HM3.out HSD3_wbb.out (IsW.nil wbb) (fun p hp => by cases hp) (by simp) (by simp)
                      unfold RetGo at hg7
                      simp only [PT.arr, PT.rule, PT.o, PT.subs, SL.v, SL.nil, List.map_nil] at hg7
                      have HG7 := Lib.hid hg7
                      have p0 : wbb.cell? ⟨D3, 0, none⟩ = some (.string r3) := HK.blk_cell HBD3_wbb.out 0
                      have p1 : wbb.cell? ⟨D3, 1, none⟩ = some (.int .u8 ro3) := HK.blk_cell HBD3_wbb.out 1
                      have p2 : wbb.cell? ⟨D3, 2, none⟩ = some (.string rm3) := HK.blk_cell HBD3_wbb.out 2
                      have p3 : wbb.cell? ⟨D3, 3, none⟩ = some (.slice ra3 rb3 rd3) := HK.blk_cell HBD3_wbb.out 3
                      have p4 : wbb.cell? ⟨D3, 4, none⟩ = some (.slice re3 rf3 rg3) := HK.blk_cell HBD3_wbb.out 4
                      have p5 : wbb.cell? ⟨D3, 5, none⟩ = some (.int .i64 rl3) := HK.blk_cell HBD3_wbb.out 5
                      have p6 : wbb.cell? ⟨D3, 6, none⟩ = some (.slice qa3 qn3 qc3) := HK.blk_cell HBD3_wbb.out 6
                      have p7 : wbb.cell? ⟨D3, 7, none⟩ = some (.slice rh3 ri3 rj3) := HK.blk_cell HBD3_wbb.out 7
                      clear hg7
                      go_upto_region 22 with (go_at_call 11; (with_reducible refine HG7.out.mono ?_; rintro e wbc ⟨v7, gs7, rfl, hgd7, hGs7, hB7⟩; obtain ⟨ga7, gc7, rfl⟩ := goal_form hGs7))
                      clear p0 p1 p2 p3 p4 p5 p6 p7
                      have HGD7 := Lib.hid hgd7
                      have HGS7 := Lib.hid hGs7
                      have hup := fun {B : Nat} {o : Obj} (h : wbb.heap[B]? = some o) => (hB7.block B (HK.blk_lt h)).trans h
                      have hd3c := hup HBD3_wbb.out
                      have hd4c := hup HBD4_wbb.out
                      have hs1 := same_call wbc (.node r3 ⟨ro3, rm3, ⟨ra3, rb3, rd3⟩, ⟨re3, rf3, rg3⟩, rl3, ⟨rh3, ri3, rj3⟩⟩ rs3) ⟨qa3, qn3, qc3⟩ ⟨qa4, qn4, qc4⟩ HP3.out (by have := HZ3.out; have := HZ1.out; omega) (HSD3_wbb.out.up hB7) (HSD4_wbb.out.up hB7)
                      simp only [PT.arr, PT.rule, PT.o, PT.subs, SL.v] at hs1
                      have HS1 := Lib.hid hs1
                      have HB7 := Lib.hid hB7
                      have p0 : wbc.cell? ⟨D3, 0, none⟩ = some (.string r3) := HK.blk_cell hd3c 0
                      have p1 : wbc.cell? ⟨D3, 1, none⟩ = some (.int .u8 ro3) := HK.blk_cell hd3c 1
                      have p2 : wbc.cell? ⟨D3, 2, none⟩ = some (.string rm3) := HK.blk_cell hd3c 2
                      have p3 : wbc.cell? ⟨D3, 3, none⟩ = some (.slice ra3 rb3 rd3) := HK.blk_cell hd3c 3
                      have p4 : wbc.cell? ⟨D3, 4, none⟩ = some (.slice re3 rf3 rg3) := HK.blk_cell hd3c 4
                      have p5 : wbc.cell? ⟨D3, 5, none⟩ = some (.int .i64 rl3) := HK.blk_cell hd3c 5
                      have p6 : wbc.cell? ⟨D3, 6, none⟩ = some (.slice qa3 qn3 qc3) := HK.blk_cell hd3c 6
                      have p7 : wbc.cell? ⟨D3, 7, none⟩ = some (.slice rh3 ri3 rj3) := HK.blk_cell hd3c 7
                      have q0 : wbc.cell? ⟨D4, 0, none⟩ = some (.string r3) := HK.blk_cell hd4c 0
                      have q1 : wbc.cell? ⟨D4, 1, none⟩ = some (.int .u8 ro3) := HK.blk_cell hd4c 1
                      have q2 : wbc.cell? ⟨D4, 2, none⟩ = some (.string rm3) := HK.blk_cell hd4c 2
                      have q3 : wbc.cell? ⟨D4, 3, none⟩ = some (.slice ra3 rb3 rd3) := HK.blk_cell hd4c 3
                      have q4 : wbc.cell? ⟨D4, 4, none⟩ = some (.slice re3 rf3 rg3) := HK.blk_cell hd4c 4
                      have q5 : wbc.cell? ⟨D4, 5, none⟩ = some (.int .i64 rl3) := HK.blk_cell hd4c 5
                      have q6 : wbc.cell? ⟨D4, 6, none⟩ = some (.slice qa4 qn4 qc4) := HK.blk_cell hd4c 6
                      have q7 : wbc.cell? ⟨D4, 7, none⟩ = some (.slice rh3 ri3 rj3) := HK.blk_cell hd4c 7
                      clear hgd7 hGs7 hB7 hup hd3c hd4c hs1
                      go_upto_region 24 with (
                        go_at_call 35
                        first
                        | (with_reducible refine HS1.out.mono ?_
                           rintro e wbd ⟨rfl, hB8⟩
                           have hb8 := below_then HB7.out hB8
                           have hs2 := same_call wbd x0 ⟨qa5, qn5, qc5⟩ ⟨ta, tn, tc⟩ hpx (by omega) (by rw [hxs2]; exact HSD5_wbb.out.up hb8) (by rw [hxs2]; exact HSPX_wbb.out.up hb8)
                           simp only [hxa2] at hs2
                           have hk1 := (hb8.block _ (HK.blk_lt HBD5_wbb.out)).trans HBD5_wbb.out
                           have hk2 := (hb8.block _ (HK.blk_lt HBPX_wbb.out)).trans HBPX_wbb.out
                           have s0 : wbd.cell? ⟨D5, 0, none⟩ = some (.string xr) := HK.blk_cell hk1 0
                           have s1 : wbd.cell? ⟨D5, 1, none⟩ = some (.int .u8 xo) := HK.blk_cell hk1 1
                           have s2 : wbd.cell? ⟨D5, 2, none⟩ = some (.string xm) := HK.blk_cell hk1 2
                           have s3 : wbd.cell? ⟨D5, 3, none⟩ = some (.slice ba bn bc) := HK.blk_cell hk1 3
                           have s4 : wbd.cell? ⟨D5, 4, none⟩ = some (.slice da dn dc) := HK.blk_cell hk1 4
                           have s5 : wbd.cell? ⟨D5, 5, none⟩ = some (.int .i64 xl) := HK.blk_cell hk1 5
                           have s6 : wbd.cell? ⟨D5, 6, none⟩ = some (.slice qa5 qn5 qc5) := HK.blk_cell hk1 6
                           have s7 : wbd.cell? ⟨D5, 7, none⟩ = some (.slice ea en ec) := HK.blk_cell hk1 7
                           have t0 : wbd.cell? ⟨PX, 0, none⟩ = some (.string xr) := HK.blk_cell hk2 0
                           have t1 : wbd.cell? ⟨PX, 1, none⟩ = some (.int .u8 xo) := HK.blk_cell hk2 1
                           have t2 : wbd.cell? ⟨PX, 2, none⟩ = some (.string xm) := HK.blk_cell hk2 2
                           have t3 : wbd.cell? ⟨PX, 3, none⟩ = some (.slice ba bn bc) := HK.blk_cell hk2 3
                           have t4 : wbd.cell? ⟨PX, 4, none⟩ = some (.slice da dn dc) := HK.blk_cell hk2 4
                           have t5 : wbd.cell? ⟨PX, 5, none⟩ = some (.int .i64 xl) := HK.blk_cell hk2 5
                           have t6 : wbd.cell? ⟨PX, 6, none⟩ = some (.slice ta tn tc) := HK.blk_cell hk2 6
                           have t7 : wbd.cell? ⟨PX, 7, none⟩ = some (.slice ea en ec) := HK.blk_cell hk2 7
                           have HS2 := Lib.hid hs2
                           have HB8 := Lib.hid hb8
                           have HC8 := Lib.hid hB8
                           clear hb8 hB8 hs2 hk1 hk2)
                        | (with_reducible refine HS2.out.mono ?_
                           rintro e wbe ⟨rfl, hB9⟩
                           have hb9 := below_then HB8.out hB9
                           have hs3 := same_call wbe y0 ⟨qa6, qn6, qc6⟩ ⟨ua, un, uc⟩ hpy (by omega) (by rw [hys2]; exact HSD6_wbb.out.up hb9) (by rw [hys2]; exact HSPY_wbb.out.up hb9)
                           simp only [hya2] at hs3
                           have hk1 := (hb9.block _ (HK.blk_lt HBD6_wbb.out)).trans HBD6_wbb.out
                           have hk2 := (hb9.block _ (HK.blk_lt HBPY_wbb.out)).trans HBPY_wbb.out
                           have g0 : wbe.cell? ⟨D6, 0, none⟩ = some (.string yr) := HK.blk_cell hk1 0
                           have g1 : wbe.cell? ⟨D6, 1, none⟩ = some (.int .u8 yo) := HK.blk_cell hk1 1
                           have g2 : wbe.cell? ⟨D6, 2, none⟩ = some (.string ym) := HK.blk_cell hk1 2
                           have g3 : wbe.cell? ⟨D6, 3, none⟩ = some (.slice ia i2 ic) := HK.blk_cell hk1 3
                           have g4 : wbe.cell? ⟨D6, 4, none⟩ = some (.slice ja jn jc) := HK.blk_cell hk1 4
                           have g5 : wbe.cell? ⟨D6, 5, none⟩ = some (.int .i64 yl) := HK.blk_cell hk1 5
                           have g6 : wbe.cell? ⟨D6, 6, none⟩ = some (.slice qa6 qn6 qc6) := HK.blk_cell hk1 6
                           have g7 : wbe.cell? ⟨D6, 7, none⟩ = some (.slice ka kn kc) := HK.blk_cell hk1 7
                           have h0 : wbe.cell? ⟨PY, 0, none⟩ = some (.string yr) := HK.blk_cell hk2 0
                           have h1 : wbe.cell? ⟨PY, 1, none⟩ = some (.int .u8 yo) := HK.blk_cell hk2 1
                           have h2 : wbe.cell? ⟨PY, 2, none⟩ = some (.string ym) := HK.blk_cell hk2 2
                           have h3 : wbe.cell? ⟨PY, 3, none⟩ = some (.slice ia i2 ic) := HK.blk_cell hk2 3
                           have h4 : wbe.cell? ⟨PY, 4, none⟩ = some (.slice ja jn jc) := HK.blk_cell hk2 4
                           have h5 : wbe.cell? ⟨PY, 5, none⟩ = some (.int .i64 yl) := HK.blk_cell hk2 5
                           have h6 : wbe.cell? ⟨PY, 6, none⟩ = some (.slice ua un uc) := HK.blk_cell hk2 6
                           have h7 : wbe.cell? ⟨PY, 7, none⟩ = some (.slice ka kn kc) := HK.blk_cell hk2 7
                           have HS3 := Lib.hid hs3
                           have HB9 := Lib.hid hb9
                           have HC9 := Lib.hid (below_then HC8.out hB9)
                           clear hb9 hB9 hs3 hk1 hk2)
                        | (with_reducible refine HS3.out.mono ?_
                           rintro e wbf ⟨rfl, hBA⟩
                           have HCA := Lib.hid (below_then HC9.out hBA)
                           have HBA := Lib.hid (below_then HB9.out hBA)
                           clear hBA))
                      clear p0 p1 p2 p3 p4 p5 p6 p7 q0 q1 q2 q3 q4 q5 q6 q7 s0 s1 s2 s3 s4 s5 s6 s7 t0 t1 t2 t3 t4 t5 t6 t7 g0 g1 g2 g3 g4 g5 g6 g7 h0 h1 h2 h3 h4 h5 h6 h7
                      have hgn := HGS.out.below (below_then HW5_wbb.out HBA.out)
                      have hg7n := HGS7.out.below HCA.out
                      have HGN := Lib.hid hgn
                      have HG7N := Lib.hid hg7n
                      have HIN := Lib.hid (fun (c : Nat) (d : StepD) (h1 : (goalsB L0)[c]? = some d) (h2 : c ≠ i) (h3 : c ≠ k) => (show ∃ (t : Nat) (y : StepV), gs7[t]? = some y ∧ y.d = d from by
                        have h4 := HL7.out c d h1 h2 h3
                        rw [← goalsL_meas HM3.out, ← HGD7.out] at h4
                        obtain ⟨y, hy, hyd⟩ := List.mem_map.1 h4
                        obtain ⟨t, ht⟩ := List.mem_iff_getElem?.1 hy
                        exact ⟨t, y, ht, hyd⟩))
                      obtain ⟨n7, hn7⟩ : ∃ n7, n7 = gs7.length := ⟨_, rfl⟩
                      rw [← hn7]
                      have HN7 := Lib.hid hn7
                      have hpl7 : ∀ d ∈ gs7.map (·.d), d.pl.length ≤ 20000 := by
                        intro d hd
                        rw [HGD7.out, goalsL_meas HM3.out] at hd
                        have := okD_pl (meas_ok HM3.out ((goals_sub _ _ _ _).subset hd))
                        omega
                      have hn73 : n7 ≤ 300 := by
                        rw [HN7.out, ← List.length_map (f := fun y : StepV => y.d), HGD7.out]
                        exact len_goalsL _ _
                      have HPL7 := Lib.hid hpl7
                      have HEND := Lib.hid (below_then HB5.out (below_then HW5_wbb.out HBA.out))
                      clear hgn hg7n hn7 hpl7
                      go_wp2_with (fail)
                      go_loopw [203] (fun j wr => ∃ m : Nat, m ≤ na ∧ j = .int .i64 m ∧ Below wbf.heap.size wbf wr) (fun j _ => na - (intOf j).toNat)
                      case atStart => exact ⟨0, by omega, rfl, Below.refl _ _⟩
                      case round =>
                        obtain ⟨wo, rfl⟩ : ∃ wo : World, wo = wr := ⟨_, rfl⟩
                        obtain ⟨m, hm, rfl, hBr⟩ := hrel
                        by_cases h1 : m < na
                        · obtain ⟨xg, hxg⟩ : ∃ xg, gs[m]? = some xg := ⟨_, List.getElem?_eq_getElem (by rw [HGL.out]; exact h1)⟩
                          have hgm := HGN.out.below hBr
                          obtain ⟨g1, _, hv1, a0, a1⟩ := goal_at hgm hxg
                          simp only [Value.slice.injEq, Option.some.injEq, Addr.mk.injEq] at hv1
                          obtain ⟨⟨hv1, hv2⟩, hv3, hv4⟩ := hv1
                          rw [← hv1] at a0 a1
                          clear hv2 hv3 hv4
                          have cpx := hgm.2 xg (List.mem_of_getElem? hxg)
                          have hxd : (goalsB L0)[m]? = some xg.d := by rw [← HGD.out, List.getElem?_map, hxg]; rfl
                          have hxl := (goalsB_mem (List.mem_of_getElem? hxd)).2.2
                          obtain ⟨⟨plx, wtx, TX⟩, ⟨pax, pnx, pcx⟩, xsvx⟩ := xg
                          simp only [SL.v] at a0 a1 cpx hxd hxl
                          have z0 : (0 : Int) ≤ (m : Int) := by omega
                          have z1 : (m : Int) < (na : Int) := by omega
                          have HXD := Lib.hid hxd
                          have HCX := Lib.hid cpx
                          have HXL := Lib.hid hxl
                          have HBR := Lib.hid hBr
                          obtain ⟨bi, hbi⟩ : ∃ bi : Bool, bi = decide (m = i) := ⟨_, rfl⟩
                          obtain ⟨bk, hbk⟩ : ∃ bk : Bool, bk = decide (m = k) := ⟨_, rfl⟩
                          have ei1 : decide ((m : Int) = (i : Int)) = bi := by rw [hbi]; exact decide_eq_decide.2 Int.ofNat_inj
                          have ei2 : ((m : Int) == (i : Int)) = bi := by rw [← ei1]; rfl
                          have ek1 : decide ((m : Int) = (k : Int)) = bk := by rw [hbk]; exact decide_eq_decide.2 Int.ofNat_inj
                          have ek2 : ((m : Int) == (k : Int)) = bk := by rw [← ek1]; rfl
                          have HBI := Lib.hid hbi
                          have HBK := Lib.hid hbk
                          clear hBr hgm hv1 hxg cpx hxd hxl hbi hbk
                          have done : ∀ W : World, Below wo.heap.size wo W → Below wbf.heap.size wbf W := fun W h => below_then HBR.out h
                          cases bi with
                          | true =>
                            go_wp2_with (fail)
                            go_roundw
                            case rel => exact ⟨m + 1, by omega, by go_num, done _ (bl_al (Below.refl _ _))⟩
                            case measure => simp [intOf]; omega
                          | false =>
                            cases bk with
                            | true =>
                              go_wp2_with (fail)
                              go_roundw
                              case rel => exact ⟨m + 1, by omega, by go_num, done _ (bl_al (Below.refl _ _))⟩
                              case measure => simp [intOf]; omega
                            | false =>
                              have hmi : m ≠ i := by simpa using HBI.out.symm
                              have hmk : m ≠ k := by simpa using HBK.out.symm
                              have HSOME := Lib.hid (HIN.out m _ HXD.out hmi hmk)
                              clear hmi hmk
                              go_upto_block 2 with (fail)
                              obtain ⟨wv, hwv⟩ : ∃ wv, wv = wo.alloc (.cells #[.slice pax pnx pcx, .int .i64 wtx] 39) := ⟨_, rfl⟩
                              rw [← hwv]
                              obtain ⟨G, hG⟩ : ∃ G, G = wo.heap.size := ⟨_, rfl⟩
                              rw [← hG]
                              have hbv : Below wo.heap.size wo wv := by rw [hwv]; exact bl_al (Below.refl _ _)
                              have hgv : wv.heap[G]? = some (.cells #[.slice pax pnx pcx, .int .i64 wtx] 39 (0, 0)) := by rw [hwv, hG]; exact HK.blk_new _ _
                              have HBV := Lib.hid hbv
                              have HGV := Lib.hid hgv
                              have HG7V := Lib.hid (HG7N.out.below (below_then HBR.out hbv))
                              have HCXV := Lib.hid (HCX.out.isI.below hbv)
                              clear hbv hgv hwv hG a0 a1
                              go_cut [34] from 219 to 237 (fun f wx => f = .bool true ∧ Below wv.heap.size wv wx)
                              case first =>
                                go_wp2_with (fail)
                                go_loopw [34, 218] (fun f j wr => ∃ (q : Nat) (b : Bool), q ≤ n7 ∧ j = .int .i64 q ∧ f = .bool b ∧ (∀ (t : Nat) (y : StepV), t < q → gs7[t]? = some y → y.d = ⟨plx, wtx, TX⟩ → b = true) ∧ Below wv.heap.size wv wr) (fun _ j _ => n7 - (intOf j).toNat)
                                case atStart => exact ⟨0, false, by omega, rfl, rfl, fun t y h => by omega, Below.refl _ _⟩
                                case round =>
                                  obtain ⟨q, b, hq, rfl, rfl, hfb, hBq⟩ := hrel
                                  have HFB := Lib.hid hfb
                                  have HBQ := Lib.hid hBq
                                  clear hfb hBq
                                  by_cases h2 : q < n7
                                  · obtain ⟨yg, hyg⟩ : ∃ yg, gs7[q]? = some yg := ⟨_, List.getElem?_eq_getElem (by rw [← HN7.out]; exact h2)⟩
                                    have hgq := HG7V.out.below HBQ.out
                                    obtain ⟨g2, cap2, hv1, a0, a1⟩ := goal_at hgq hyg
                                    simp only [Value.slice.injEq] at hv1
                                    obtain ⟨hv1, hv3, hv4⟩ := hv1
                                    subst hv1
                                    clear hv3 hv4
                                    have cpy := (hgq.2 yg (List.mem_of_getElem? hyg)).isI
                                    have hyl := HPL7.out yg.d (List.mem_map.2 ⟨yg, List.mem_of_getElem? hyg, rfl⟩)
                                    have hnx : ∀ b' : Bool, (b = true → b' = true) → (yg.d = ⟨plx, wtx, TX⟩ → b' = true) → ∀ (t : Nat) (y : StepV), t < q + 1 → gs7[t]? = some y → y.d = ⟨plx, wtx, TX⟩ → b' = true := by
                                      intro b' hb1 hb2 t y ht hty hyd
                                      by_cases htq : t = q
                                      · subst htq
                                        rw [hyg] at hty
                                        cases hty
                                        exact hb2 hyd
                                      · exact hb1 (HFB.out t y (by omega) hty hyd)
                                    obtain ⟨⟨ply, wty, TY⟩, ⟨pay, pny, pcy⟩, xsvy⟩ := yg
                                    simp only [SL.v] at a0 a1 cpy hyl hnx
                                    have y0 : (0 : Int) ≤ (q : Int) := by omega
                                    have y1 : (q : Int) < (n7 : Int) := by omega
                                    have HNX := Lib.hid hnx
                                    have HCY := Lib.hid cpy
                                    have HYL := Lib.hid hyl
                                    have sb := HBQ.out.block _ (HK.blk_lt HGV.out)
                                    have sg := sb.trans HGV.out
                                    have hGlt := HK.blk_lt sg
                                    have s0 : ∀ o, (wr.alloc o).cell? ⟨G, 0, none⟩ = some (.slice pax pnx pcx) := fun o => HK.blk_cell (HK.blk_alloc sg o) 0
                                    have s1 : ∀ o, (wr.alloc o).cell? ⟨G, 1, none⟩ = some (.int .i64 wtx) := fun o => HK.blk_cell (HK.blk_alloc sg o) 1
                                    have hii := fun (o : Obj) => ints_call (wr.alloc o) ⟨pay, pny, pcy⟩ ⟨pax, pnx, pcx⟩ (natI ply) (natI plx) (HCY.out.below (bl_al (Below.refl _ _))) (HCXV.out.below (bl_al HBQ.out)) (by simp only [natI, List.length_map]; have := HYL.out; omega) (by simp only [natI, List.length_map]; have := HXL.out; omega)
                                    unfold RetD at hii
                                    simp only [SL.v] at hii
                                    have HII := Lib.hid hii
                                    clear hyg hgq cpy hyl hnx sb sg hii
                                    cases b with
                                    | true =>
                                      go_wp2_with (fail)
                                      go_roundw
                                      case rel => exact ⟨q + 1, true, by omega, by go_num, rfl, HNX.out true (fun _ => rfl) (fun _ => rfl), bl_al HBQ.out⟩
                                      case measure => simp [intOf]; omega
                                    | false =>
                                      obtain ⟨bw, hbw⟩ : ∃ bw : Bool, bw = decide (wty = wtx) := ⟨_, rfl⟩
                                      have ew1 : decide ((wty : Int) = (wtx : Int)) = bw := by rw [hbw]; exact decide_eq_decide.2 Int.ofNat_inj
                                      have ew2 : ((wty : Int) == (wtx : Int)) = bw := by rw [← ew1]; rfl
                                      have HBWW := Lib.hid hbw
                                      clear hbw
                                      cases bw with
                                      | false =>
                                        have hne : wty ≠ wtx := by simpa using HBWW.out.symm
                                        have HNE := Lib.hid hne
                                        clear hne
                                        go_wp2_with (fail)
                                        go_roundw
                                        case rel => exact ⟨q + 1, false, by omega, by go_num, rfl, HNX.out false (fun h => h) (fun h => absurd (congrArg StepD.wt h) HNE.out), bl_al HBQ.out⟩
                                        case measure => simp [intOf]; omega
                                      | true =>
                                        go_wp2_with (go_at_call 26; (with_reducible refine (HII.out _).mono ?_; rintro e wi ⟨rfl, dd, rfl⟩))
                                        go_roundw
                                        case rel => exact ⟨q + 1, _, by omega, by go_num, rfl, HNX.out _ (fun h => by cases h) (fun h => by have := congrArg StepD.pl h; simp only at this; simp [this]), below_drewN (bl_al HBQ.out) _⟩
                                        case measure => simp [intOf]; omega
                                  · obtain rfl : q = n7 := by omega
                                    have y1 : ¬ ((q : Int) < (q : Int)) := by omega
                                    obtain ⟨t, y, ht, hyd⟩ := HSOME.out
                                    have hb : b = true := HFB.out t y (by rw [HN7.out]; exact (List.getElem?_eq_some_iff.1 ht).1) ht hyd
                                    subst hb
                                    clear ht hyd
                                    go_wp2_with (fail)
                                    go_meet
                                    case rel => exact ⟨rfl, HBQ.out⟩
                              case rest =>
                                obtain ⟨rfl, hBw⟩ := hcut
                                have HBW := Lib.hid hBw
                                clear hBw
                                go_wp2_with (fail)
                                go_roundw
                                case rel => exact ⟨m + 1, by omega, by go_num, done _ (below_then HBV.out HBW.out)⟩
                                case measure => simp [intOf]; omega
                        · obtain rfl : m = na := by omega
                          have b1 : ¬ ((m : Int) < (m : Int)) := by omega
                          have HBR := Lib.hid hBr
                          clear hBr
                          go_wp2_with (go_at_call 14; (refine (haw _).mono ?_; rintro e w15 ⟨rfl, hB15⟩))
                          go_ret
                          exact ⟨rfl, below_then HEND.out (below_then HBR.out hB15)⟩
                · go_wp2_with (go_at_call 14; (refine (haw _).mono ?_; rintro e w15 ⟨rfl, hB15⟩))
                  go_ret
                  exact ⟨rfl, below_then (below_then HB5.out HW5_wb9.out) hB15⟩
          · clear hm1 he1
            go_wp2_with (go_at_call 14; (refine (haw _).mono ?_; rintro e w15 ⟨rfl, hB15⟩))
            go_ret
            exact ⟨rfl, below_then (below_then HB5.out HW5_w7.out) hB15⟩
        · rcases hd2 with ⟨rfl, hm2, he2⟩ | rfl
          · clear hm2 he2
            go_wp2_with (go_at_call 14; (refine (haw _).mono ?_; rintro e w15 ⟨rfl, hB15⟩))
            go_ret
            exact ⟨rfl, below_then (below_then HB5.out HW5_w7.out) hB15⟩
          · go_wp2_with (go_at_call 14; (refine (haw _).mono ?_; rintro e w15 ⟨rfl, hB15⟩))
            go_ret
            exact ⟨rfl, below_then (below_then HB5.out HW5_w7.out) hB15⟩
end Go.Proofs.Ytfebcpmbkljaoaa
