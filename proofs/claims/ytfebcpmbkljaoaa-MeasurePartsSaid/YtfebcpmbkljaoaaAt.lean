/- The walk of At. -/
import Derived.Test.YtfebcpmbkljaoaaWith
import Derived.Deep.CutBlock
import Derived.Test.YtfebcpmbkljaoaaMeaX
import Derived.Test.YtfebcpmbkljaoaaGrowp
import Derived.Test.YtfebcpmbkljaoaaMeaZ
import Derived.Test.YtfebcpmbkljaoaaWrP
import Derived.Test.YtfebcpmbkljaoaaMeaS
namespace Go.Proofs.Ytfebcpmbkljaoaa
open Go.RowKit Go.HR
set_option linter.unusedVariables false
set_option linter.unusedSimpArgs false
set_option linter.unusedSectionVars false
/-- The part at a place. -/
def subT : PT → List Int → Option PT
  | t, [] => some t
  | .node _ _ s, i :: is => if 0 ≤ i ∧ i < s.length then (match s[i.toNat]? with | some q => subT q is | none => none) else none
theorem subT_out {t : PT} {i : Int} {is : List Int} (h : ¬ (0 ≤ i ∧ i < t.subs.length)) : subT t (i :: is) = none := by
  obtain ⟨r, o, s⟩ := t
  simp only [PT.subs] at h
  rw [subT, if_neg h]
theorem subT_in {t q : PT} {k : Nat} {is : List Int} (h : t.subs[k]? = some q) : subT t ((k : Int) :: is) = subT q is := by
  obtain ⟨r, o, s⟩ := t
  simp only [PT.subs] at h
  obtain ⟨hl, _⟩ := List.getElem?_eq_some_iff.1 h
  rw [subT, if_pos ⟨by omega, by omega⟩, Int.toNat_natCast, h]
/-- What At returns: the error's number, the proof. -/
def atR (t : PT) (is : List Int) : Nat × PT := if measT t then (match subT t is with | none => (6, zeroT) | some q => (0, q)) else (2, zeroT)
set_option maxRecDepth 100000 in
set_option maxHeartbeats 8000000 in
theorem at_new (w : World) (t : PT) (sv s : SL) (is : List Int) (hs : IsPs w.heap.size w sv t.subs) (hi : IsI w s is) (hl : is.length ≤ 20000) (hzt : sizeT t ≤ 10000) (hpt : plainT t) :
    Calls Try.prog 32 #[.agg (t.arr sv), s.v] w (RetWq w (atR t is)) := by
  have hms := fun (W : World) (h : IsPs W.heap.size W sv t.subs) => measurable_call W t sv h hzt
  have hw : atR t is = if measT t then (match subT t is with | none => (6, zeroT) | some q => (0, q)) else (2, zeroT) := rfl
  obtain ⟨mt, hmt⟩ : ∃ mt, mt = measT t := ⟨_, rfl⟩
  unfold RetMs at hms
  rw [← hmt] at hms hw
  obtain ⟨r0, hr0⟩ : ∃ r0, r0 = atR t is := ⟨_, rfl⟩
  rw [← hr0] at hw ⊢
  obtain ⟨t0, ht0⟩ : ∃ t0, t0 = t := ⟨_, rfl⟩
  have e2 : mt = false → r0 = (2, zeroT) := fun h => by rw [hw, h]; rfl
  have e6 : mt = true → subT t0 is = none → r0 = (6, zeroT) := fun h h2 => by rw [hw, h, ← ht0, h2]; rfl
  have e0 : mt = true → ∀ q, subT t0 is = some q → r0 = (0, q) := fun h q h2 => by rw [hw, h, ← ht0, h2]; rfl
  have E2 := Lib.hid e2
  have E6 := Lib.hid e6
  have E0 := Lib.hid e0
  have HPT := Lib.hid hpt
  have HZT := Lib.hid hzt
  have HT0 := Lib.hid ht0
  clear hw hmt hzt hpt hr0 e2 e6 e0 ht0
  obtain ⟨rule, ⟨op, name, ⟨aa, an, ac⟩, ⟨fa, fn, fc⟩, label, ⟨ma, mn, mc⟩⟩, subs⟩ := t
  obtain ⟨ta, tn, tc⟩ := sv
  obtain ⟨sa, sn, sc⟩ := s
  simp only [PT.arr, PT.rule, PT.o, PT.subs, SL.v] at hms hs ⊢
  obtain ⟨w3, hw3⟩ : ∃ w3, w3 = (w.alloc (.cells #[.string rule, .int .u8 op, .string name, .slice aa an ac, .slice fa fn fc, .int .i64 label, .slice ta tn tc, .slice ma mn mc] 30)).alloc (.cells #[.string ⟨#[]⟩, .int .u8 0, .string ⟨#[]⟩, .slice none 0 0, .slice none 0 0, .int .i64 0, .slice none 0 0, .slice none 0 0] 30) := ⟨_, rfl⟩
  have hb3 : Below w.heap.size w w3 := by rw [hw3]; exact ((Below.refl _ w).alloc (Nat.le_refl _) _).alloc (by simp) _
  have hz3 : w3.heap.size = w.heap.size + 2 := by rw [hw3]; simp
  have k0 : w3.heap[w.heap.size]? = some (.cells #[.string rule, .int .u8 op, .string name, .slice aa an ac, .slice fa fn fc, .int .i64 label, .slice ta tn tc, .slice ma mn mc] 30 (0, 0)) := by rw [hw3]; exact HK.blk_alloc (HK.blk_new _ _) _
  have k2 : w3.heap[w.heap.size + 1]? = some (.cells #[.string ⟨#[]⟩, .int .u8 0, .string ⟨#[]⟩, .slice none 0 0, .slice none 0 0, .int .i64 0, .slice none 0 0, .slice none 0 0] 30 (0, 0)) := by rw [hw3]; exact blk_new1 _ _ _
  have hm3 := hms w3 (hs.up hb3)
  have hsn : sn = is.length := hi.1
  have HM3 := Lib.hid hm3
  have HS := Lib.hid hs
  have HI := Lib.hid hi
  have HB3 := Lib.hid hb3
  have HZ3 := Lib.hid hz3
  have K0 := Lib.hid k0
  have K2 := Lib.hid k2
  have HW3 := Lib.hid hw3
  have HSN := Lib.hid hsn
  have hsn2 : sn ≤ 20000 := by omega
  clear hms hs hi hb3 hz3 k0 k2 hw3 hm3 hsn hl
  go_enter Try.func32, Try.ntmps32
  go_upto_region 1 with (fail)
  rw [← HW3.out]
  have k0 := K0.out
  have p0 : w3.cell? ⟨w.heap.size, 0, none⟩ = some (.string rule) := HK.blk_cell k0 0
  have p1 : w3.cell? ⟨w.heap.size, 1, none⟩ = some (.int .u8 op) := HK.blk_cell k0 1
  have p2 : w3.cell? ⟨w.heap.size, 2, none⟩ = some (.string name) := HK.blk_cell k0 2
  have p3 : w3.cell? ⟨w.heap.size, 3, none⟩ = some (.slice aa an ac) := HK.blk_cell k0 3
  have p4 : w3.cell? ⟨w.heap.size, 4, none⟩ = some (.slice fa fn fc) := HK.blk_cell k0 4
  have p5 : w3.cell? ⟨w.heap.size, 5, none⟩ = some (.int .i64 label) := HK.blk_cell k0 5
  have p6 : w3.cell? ⟨w.heap.size, 6, none⟩ = some (.slice ta tn tc) := HK.blk_cell k0 6
  have p7 : w3.cell? ⟨w.heap.size, 7, none⟩ = some (.slice ma mn mc) := HK.blk_cell k0 7
  clear k0
  cases mt with
  | false =>
    go_wp2_with (
      go_at_call 45
      refine HM3.out.mono ?_
      rintro e w4 ⟨rfl, hB4⟩
      have hr4 := (hB4.block _ (by have := HZ3.out; omega)).trans K2.out
      have z0 : w4.cell? ⟨w.heap.size + 1, 0, none⟩ = some (.string ⟨#[]⟩) := HK.blk_cell hr4 0
      have z1 : w4.cell? ⟨w.heap.size + 1, 1, none⟩ = some (.int .u8 0) := HK.blk_cell hr4 1
      have z2 : w4.cell? ⟨w.heap.size + 1, 2, none⟩ = some (.string ⟨#[]⟩) := HK.blk_cell hr4 2
      have z3 : w4.cell? ⟨w.heap.size + 1, 3, none⟩ = some (.slice none 0 0) := HK.blk_cell hr4 3
      have z4 : w4.cell? ⟨w.heap.size + 1, 4, none⟩ = some (.slice none 0 0) := HK.blk_cell hr4 4
      have z5 : w4.cell? ⟨w.heap.size + 1, 5, none⟩ = some (.int .i64 0) := HK.blk_cell hr4 5
      have z6 : w4.cell? ⟨w.heap.size + 1, 6, none⟩ = some (.slice none 0 0) := HK.blk_cell hr4 6
      have z7 : w4.cell? ⟨w.heap.size + 1, 7, none⟩ = some (.slice none 0 0) := HK.blk_cell hr4 7
      have zf := fun i => HK.blk_frozen hr4 i
      have HR4 := Lib.hid hr4
      have HB4 := Lib.hid hB4
      clear hr4 hB4)
    have hre := E2.out (by trivial)
    rw [hre]
    refine bodyPost_ret (results_row_tmp (p := 4) (u := 5) (by kernel_rfl) _ _ (w.heap.size + 1) 30 _ (0, 0) _ (.int .i64 2) rfl rfl (set8 (b := w.heap.size + 1) HR4.out _ _ _ _ _ _ _ _) Try.underlying30 rfl (by kernel_rfl)) rfl ?_
    have hF8 := set8_frm w4 (w.heap.size + 1) (.string ⟨#[]⟩) (.int .u8 0) (.string ⟨#[]⟩) (.slice none 0 0) (.slice none 0 0) (.int .i64 0) (.slice none 0 0) (.slice none 0 0)
    have hBW := below_then HB3.out HB4.out
    have hsz := hBW.size
    exact ⟨SL.nil, rfl, .nil _ _, hBW.trans (hF8.below (B := w.heap.size) (by omega) (fun b e => by omega))⟩
  | true =>
    go_upto_region 3 with (
      go_at_call 45
      refine HM3.out.mono ?_
      rintro e w4 ⟨rfl, hB4⟩)
    have hr4 := (hB4.block _ (by have := HZ3.out; omega)).trans K2.out
    have ht4 := (hB4.block _ (by have := HZ3.out; omega)).trans K0.out
    have hz4 : w.heap.size + 2 ≤ w4.heap.size := by have := hB4.size; have := HZ3.out; omega
    have HB04 := Lib.hid (below_then HB3.out hB4)
    have HR4 := Lib.hid hr4
    have HT4 := Lib.hid ht4
    have HZ4 := Lib.hid hz4
    clear p0 p1 p2 p3 p4 p5 p6 p7 hr4 ht4 hB4 hz4
    go_wp2_with (fail)
    go_loopw [14] (fun k wr => ∃ (j : Nat) (q : PT) (sq : SL), j ≤ sn ∧ k = .int .i64 j ∧ subT t0 is = subT q (is.drop j) ∧ plainT q ∧ sizeT q ≤ 10000 ∧ IsPs w.heap.size wr sq q.subs ∧ wr.heap[w.heap.size]? = some (.cells (q.arr sq) 30 (0, 0)) ∧ wr.heap[w.heap.size + 1]? = some (.cells #[.string ⟨#[]⟩, .int .u8 0, .string ⟨#[]⟩, .slice none 0 0, .slice none 0 0, .int .i64 0, .slice none 0 0, .slice none 0 0] 30 (0, 0)) ∧ Below w.heap.size w wr ∧ w.heap.size + 2 ≤ wr.heap.size) (fun k _ => sn - (intOf k).toNat)
    case atStart =>
      refine ⟨0, .node rule ⟨op, name, ⟨aa, an, ac⟩, ⟨fa, fn, fc⟩, label, ⟨ma, mn, mc⟩⟩ subs, ⟨ta, tn, tc⟩, by omega, rfl, ?_, HPT.out, HZT.out, ?_, HT4.out, HR4.out, HB04.out, HZ4.out⟩
      · rw [HT0.out]; rfl
      · exact HS.out.same fun b hb => HB04.out.block b hb
    case round =>
      obtain ⟨j, q, sq, hj, rfl, hsub, hpq, hzq, hS, hX, hR, hB, hz⟩ := hrel
      obtain ⟨wo, rfl⟩ : ∃ wo : World, wo = wr := ⟨_, rfl⟩
      obtain ⟨qr, ⟨qo, qn, ⟨ba, bn, bc⟩, ⟨da, dn, dc⟩, ql, ⟨na, nn, nc⟩⟩, qs⟩ := q
      obtain ⟨va, vn, vc⟩ := sq
      simp only [PT.arr, PT.rule, PT.o, PT.subs, SL.v] at hS hX
      have hvn : vn = qs.length := hS.len
      have HSUB := Lib.hid hsub
      have HPQ := Lib.hid hpq
      have HZQ := Lib.hid hzq
      have HSQ := Lib.hid hS
      have HX := Lib.hid hX
      have HR := Lib.hid hR
      have HB := Lib.hid hB
      have HZW := Lib.hid hz
      have HVN := Lib.hid hvn
      have x0 : wo.cell? ⟨w.heap.size, 0, none⟩ = some (.string qr) := HK.blk_cell hX 0
      have x1 : wo.cell? ⟨w.heap.size, 1, none⟩ = some (.int .u8 qo) := HK.blk_cell hX 1
      have x2 : wo.cell? ⟨w.heap.size, 2, none⟩ = some (.string qn) := HK.blk_cell hX 2
      have x3 : wo.cell? ⟨w.heap.size, 3, none⟩ = some (.slice ba bn bc) := HK.blk_cell hX 3
      have x4 : wo.cell? ⟨w.heap.size, 4, none⟩ = some (.slice da dn dc) := HK.blk_cell hX 4
      have x5 : wo.cell? ⟨w.heap.size, 5, none⟩ = some (.int .i64 ql) := HK.blk_cell hX 5
      have x6 : wo.cell? ⟨w.heap.size, 6, none⟩ = some (.slice va vn vc) := HK.blk_cell hX 6
      have x7 : wo.cell? ⟨w.heap.size, 7, none⟩ = some (.slice na nn nc) := HK.blk_cell hX 7
      have xf := fun i => HK.blk_frozen hX i
      have z0 : wo.cell? ⟨w.heap.size + 1, 0, none⟩ = some (.string ⟨#[]⟩) := HK.blk_cell hR 0
      have z1 : wo.cell? ⟨w.heap.size + 1, 1, none⟩ = some (.int .u8 0) := HK.blk_cell hR 1
      have z2 : wo.cell? ⟨w.heap.size + 1, 2, none⟩ = some (.string ⟨#[]⟩) := HK.blk_cell hR 2
      have z3 : wo.cell? ⟨w.heap.size + 1, 3, none⟩ = some (.slice none 0 0) := HK.blk_cell hR 3
      have z4 : wo.cell? ⟨w.heap.size + 1, 4, none⟩ = some (.slice none 0 0) := HK.blk_cell hR 4
      have z5 : wo.cell? ⟨w.heap.size + 1, 5, none⟩ = some (.int .i64 0) := HK.blk_cell hR 5
      have z6 : wo.cell? ⟨w.heap.size + 1, 6, none⟩ = some (.slice none 0 0) := HK.blk_cell hR 6
      have z7 : wo.cell? ⟨w.heap.size + 1, 7, none⟩ = some (.slice none 0 0) := HK.blk_cell hR 7
      have zf := fun i => HK.blk_frozen hR i
      clear hsub hpq hzq hS hX hR hB hz hvn
      by_cases h1 : j < sn
      · obtain ⟨i, hi⟩ : ∃ i, is[j]? = some i := ⟨_, List.getElem?_eq_getElem (by rw [← HSN.out]; exact h1)⟩
        have hdr : is.drop j = i :: is.drop (j + 1) := by
          obtain ⟨hl, he⟩ := List.getElem?_eq_some_iff.1 hi
          rw [List.drop_eq_getElem_cons hl, he]
        obtain ⟨g, og, hsa, hcc⟩ : ∃ g og, sa = some ⟨g, og, none⟩ ∧ wo.cell? ⟨g, og + j, none⟩ = some (.int .i64 i) := by
          rcases (HI.out.below HB.out).2.2 with h0 | ⟨g, og, ha, hc⟩
          · rw [h0] at hi; simp at hi
          · exact ⟨g, og, ha, hc j i hi⟩
        subst hsa
        have b1 : (0 : Int) ≤ (j : Int) := by omega
        have b2 : (j : Int) < (sn : Int) := by omega
        have HDR := Lib.hid hdr
        clear hdr hi
        by_cases ho : 0 ≤ i ∧ i < (vn : Int)
        · obtain ⟨k, rfl⟩ : ∃ k : Nat, i = (k : Int) := ⟨i.toNat, by omega⟩
          have hkv : k < vn := by omega
          obtain ⟨q2, hq2⟩ : ∃ q2, qs[k]? = some q2 := ⟨_, List.getElem?_eq_getElem (by rw [← HVN.out]; exact hkv)⟩
          obtain ⟨g2, o3, rfl⟩ := ps_addr HSQ.out hq2
          obtain ⟨sv2, hc, hps⟩ := row_at HSQ.out hq2
          have hsz2 : sizeT q2 ≤ 10000 := by
            have h9 := HZQ.out
            rw [sizeT_eq] at h9
            have := sizeF_mem hq2
            simp only [PT.subs] at h9
            omega
          have hpl2 : plainT q2 := (plainF_iff qs).1 ((plainT_eq _).1 HPQ.out).2.2.2 q2 (List.mem_of_getElem? hq2)
          have hsub2 : subT t0 is = subT q2 (is.drop (j + 1)) := by rw [HSUB.out, HDR.out]; exact subT_in hq2
          have hg2 : g2 < w.heap.size := by
            cases HSQ.out with
            | nil => simp at hq2
            | row g o c ts sv hg hc hs => exact hg
          obtain ⟨r2, ⟨o2, n2, ⟨ea, en, ec⟩, ⟨ia, i2, ic⟩, l2, ⟨ka, kn, kc⟩⟩, s3⟩ := q2
          obtain ⟨ua, un, uc⟩ := sv2
          simp only [PT.vals, PT.rule, PT.o, SL.v, PT.subs] at hc hps
          have y0 : wo.cell? ⟨g2, o3 + k * 8, none⟩ = some (.string r2) := hc 0 _ rfl
          have y1 : wo.cell? ⟨g2, o3 + k * 8 + 1, none⟩ = some (.int .u8 o2) := hc 1 _ rfl
          have y2 : wo.cell? ⟨g2, o3 + k * 8 + 2, none⟩ = some (.string n2) := hc 2 _ rfl
          have y3 : wo.cell? ⟨g2, o3 + k * 8 + 3, none⟩ = some (.slice ea en ec) := hc 3 _ rfl
          have y4 : wo.cell? ⟨g2, o3 + k * 8 + 4, none⟩ = some (.slice ia i2 ic) := hc 4 _ rfl
          have y5 : wo.cell? ⟨g2, o3 + k * 8 + 5, none⟩ = some (.int .i64 l2) := hc 5 _ rfl
          have y6 : wo.cell? ⟨g2, o3 + k * 8 + 6, none⟩ = some (.slice ua un uc) := hc 6 _ rfl
          have y7 : wo.cell? ⟨g2, o3 + k * 8 + 7, none⟩ = some (.slice ka kn kc) := hc 7 _ rfl
          have n1 : ¬ (k : Int) < 0 := by omega
          have n2' : ¬ (vn : Int) ≤ (k : Int) := by omega
          have n3 : (k : Int) < (vn : Int) := by omega
          have n4 : (0 : Int) ≤ (k : Int) := by omega
          have HPS := Lib.hid hps
          have HPL2 := Lib.hid hpl2
          have HSB2 := Lib.hid hsub2
          clear hc hps hpl2 hsub2 ho hq2
          go_wp2_with (fail)
          have hF8 := set8_frm wo w.heap.size (.string r2) (.int .u8 o2) (.string n2) (.slice ea en ec) (.slice ia i2 ic) (.int .i64 l2) (.slice ua un uc) (.slice ka kn kc)
          have HF8 := Lib.hid hF8
          clear hF8
          go_roundw
          case rel =>
            have hF := HF8.out
            have hzw := HZW.out
            refine ⟨j + 1, .node r2 ⟨o2, n2, ⟨ea, en, ec⟩, ⟨ia, i2, ic⟩, l2, ⟨ka, kn, kc⟩⟩ s3, ⟨ua, un, uc⟩, by omega, by go_num, HSB2.out, HPL2.out, hsz2, ?_, set8 HX.out _ _ _ _ _ _ _ _, ?_, ?_, ?_⟩
            · exact HPS.out.same fun b hb => hF.block b (by omega) (by omega)
            · exact (hF.block _ (by omega) (by omega)).trans HR.out
            · exact HB.out.trans (hF.below (by omega) (fun b e => by omega))
            · exact Nat.le_trans HZW.out hF.size
          case measure => simp [intOf]; omega
        · have hsub2 : subT t0 is = none := by rw [HSUB.out, HDR.out]; exact subT_out (by simp only [PT.subs]; rw [← HVN.out]; exact ho)
          have hre := E6.out (by trivial) hsub2
          have HRE := Lib.hid hre
          clear hsub2 hre
          by_cases hneg : i < 0
          · go_wp2_with (fail)
            rw [HRE.out]
            refine bodyPost_ret (results_row_tmp (p := 4) (u := 5) (by kernel_rfl) _ _ (w.heap.size + 1) 30 _ (0, 0) _ (.int .i64 6) rfl rfl (set8 (b := w.heap.size + 1) HR.out _ _ _ _ _ _ _ _) Try.underlying30 rfl (by kernel_rfl)) rfl ?_
            have hF8 := set8_frm wo (w.heap.size + 1) (.string ⟨#[]⟩) (.int .u8 0) (.string ⟨#[]⟩) (.slice none 0 0) (.slice none 0 0) (.int .i64 0) (.slice none 0 0) (.slice none 0 0)
            have hzw := HZW.out
            exact ⟨SL.nil, rfl, .nil _ _, HB.out.trans (hF8.below (B := w.heap.size) (by omega) (fun b e => by omega))⟩
          · have n2' : (vn : Int) ≤ i := by omega
            go_wp2_with (fail)
            rw [HRE.out]
            refine bodyPost_ret (results_row_tmp (p := 4) (u := 5) (by kernel_rfl) _ _ (w.heap.size + 1) 30 _ (0, 0) _ (.int .i64 6) rfl rfl (set8 (b := w.heap.size + 1) HR.out _ _ _ _ _ _ _ _) Try.underlying30 rfl (by kernel_rfl)) rfl ?_
            have hF8 := set8_frm wo (w.heap.size + 1) (.string ⟨#[]⟩) (.int .u8 0) (.string ⟨#[]⟩) (.slice none 0 0) (.slice none 0 0) (.int .i64 0) (.slice none 0 0) (.slice none 0 0)
            have hzw := HZW.out
            exact ⟨SL.nil, rfl, .nil _ _, HB.out.trans (hF8.below (B := w.heap.size) (by omega) (fun b e => by omega))⟩
      · obtain rfl : j = sn := by omega
        have b1 : ¬ ((j : Int) < (j : Int)) := by omega
        have hre := E0.out (by trivial) _ (by rw [HSUB.out, List.drop_of_length_le (by rw [← HSN.out]; exact Nat.le_refl _)]; rfl)
        have hcq := copy_all 10000 (by omega) _ HPQ.out HZQ.out ⟨va, vn, vc⟩ wo ((HSQ.out.mono (by have := HZW.out; omega)))
        unfold RetP at hcq
        simp only [PT.arr, PT.rule, PT.o, PT.subs, SL.v] at hcq
        have HCP := Lib.hid hcq
        have HRE := Lib.hid hre
        clear hre hcq zf z0 z1 z2 z3 z4 z5 z6 z7
        go_wp2_with (
          go_at_call 47
          refine HCP.out.mono ?_
          rintro e w8 ⟨⟨ca, cn, cc⟩, rfl, hq8, hB8⟩
          have hr8 := (hB8.block _ (HK.blk_lt HR.out)).trans HR.out
          have z0 : w8.cell? ⟨w.heap.size + 1, 0, none⟩ = some (.string ⟨#[]⟩) := HK.blk_cell hr8 0
          have z1 : w8.cell? ⟨w.heap.size + 1, 1, none⟩ = some (.int .u8 0) := HK.blk_cell hr8 1
          have z2 : w8.cell? ⟨w.heap.size + 1, 2, none⟩ = some (.string ⟨#[]⟩) := HK.blk_cell hr8 2
          have z3 : w8.cell? ⟨w.heap.size + 1, 3, none⟩ = some (.slice none 0 0) := HK.blk_cell hr8 3
          have z4 : w8.cell? ⟨w.heap.size + 1, 4, none⟩ = some (.slice none 0 0) := HK.blk_cell hr8 4
          have z5 : w8.cell? ⟨w.heap.size + 1, 5, none⟩ = some (.int .i64 0) := HK.blk_cell hr8 5
          have z6 : w8.cell? ⟨w.heap.size + 1, 6, none⟩ = some (.slice none 0 0) := HK.blk_cell hr8 6
          have z7 : w8.cell? ⟨w.heap.size + 1, 7, none⟩ = some (.slice none 0 0) := HK.blk_cell hr8 7
          have zf := fun i => HK.blk_frozen hr8 i
          have HR8 := Lib.hid hr8
          have HB8 := Lib.hid hB8
          have HQ8 := Lib.hid hq8
          clear hr8 hB8 hq8)
        rw [HRE.out]
        refine bodyPost_ret (results_row_tmp (p := 4) (u := 5) (by kernel_rfl) _ _ (w.heap.size + 1) 30 _ (0, 0) _ (.int .i64 0) rfl rfl (set8 (b := w.heap.size + 1) HR8.out _ _ _ _ _ _ _ _) Try.underlying30 rfl (by kernel_rfl)) rfl ?_
        have hF8 := set8_frm w8 (w.heap.size + 1) (.string qr) (.int .u8 qo) (.string qn) (.slice ba bn bc) (.slice da dn dc) (.int .i64 ql) (.slice ca cn cc) (.slice na nn nc)
        have hBW := HB.out.trans (HB8.out.mono HB.out.size)
        have hsz := hBW.size
        have hz8 := hF8.size
        have hlr := HK.blk_lt HR.out
        refine ⟨⟨ca, cn, cc⟩, rfl, ?_, hBW.trans (hF8.below (B := w.heap.size) (by omega) (fun b e => by omega))⟩
        have hsw := HB.out.size
        exact HQ8.out.turn (T := fun k => w.heap.size ≤ k ∧ k < _) fun b hb => ⟨⟨by omega, Nat.lt_of_lt_of_le hb.2 hz8⟩, hF8.block b hb.2 (by omega)⟩
end Go.Proofs.Ytfebcpmbkljaoaa
namespace Go.Proofs.Ytfebcpmbkljaoaa
open Go.RowKit Go.HR
set_option linter.unusedVariables false
set_option linter.unusedSimpArgs false
set_option linter.unusedSectionVars false
theorem elem22 : HK.ElemOk Try.prog 22 5 1 1 := HK.ElemOk.mk' (z := .int .u8 0) Try.underlying22 (by kernel_rfl) rfl (by decide)
theorem own_next {W0 W W1 : World} {b g cap n m e size : Nat} {v : Value} {xs ys : List Value} (h : W.ownsRow b e size v n xs) (hb : b ≤ W0.heap.size)
    (hown : W1.ownsRow 0 e size (.slice (some ⟨g, 0, none⟩) m cap) m ys) (hat : v.ownBlock = some g ∨ g = W0.heap.size) : W1.ownsRow b e size (.slice (some ⟨g, 0, none⟩) m cap) m ys := by
  refine ⟨hown.1, ?_⟩
  rcases hown.2 with h0 | ⟨g', cap', cur', hv', hg', r'⟩
  · exact .inl h0
  · refine .inr ⟨g', cap', cur', hv', ?_, r'⟩
    simp only [Value.slice.injEq, Option.some.injEq, Addr.mk.injEq] at hv'
    obtain ⟨⟨rfl, _⟩, _⟩ := hv'
    rcases hat with e | e
    · exact (h.lt _ e).1
    · omega
def fours (n : Nat) : List Value := List.replicate n (.int .u8 4)
theorem full_call (w : World) : Calls Try.prog 38 #[] w fun e w' => ∃ g c, e = .returned (.slice (some ⟨g, 0, none⟩) 60 c) ∧ BytesAt w' (some ⟨g, 0, none⟩) 60 (List.replicate 60 4) ∧ Below w.heap.size w w' := by
  go_enter Try.func38, Try.ntmps38
  go_wp2_with (fail)
  go_loopw [1, 2] (fun v k wr => ∃ (m : Nat) (va : Option Addr) (vc : Nat), m ≤ 60 ∧ v = .slice va m vc ∧ k = .int .i64 m ∧ wr.ownsRow w.heap.size 5 1 (.slice va m vc) m (fours m) ∧ Below w.heap.size w wr) (fun _ k _ => 60 - (intOf k).toNat)
  case atStart => exact ⟨0, none, 0, by omega, rfl, rfl, World.ownsRow_nil _ _ _ _, Below.refl _ _⟩
  case round =>
    obtain ⟨m, va, vc, hm, rfl, rfl, hrow, hB⟩ := hrel
    by_cases h1 : m < 60
    · have b1 : (m : Int) < 60 := by omega
      have hz := hB.size
      have HROW := Lib.hid hrow
      have HB := Lib.hid hB
      clear hrow hB
      go_upto_region 5 with (
        at_builtin
        refine HK.wpList_app1 rfl elem22 _ _ rfl (.slice va m vc) m (fours m) rfl (row_mono (HROW.out.alloc _) (Nat.zero_le _)) wr.heap.size 1 #[.int .u8 4] rfl (HK.blk_new _ _) rfl (by simp [Value.oneCell']) (by simp only [maxLen]; omega) (by omega) ?_
        intro gg cap w7 hown7 hgrow hat hlt)
      have hn := own_next (W0 := wr.alloc (.cells #[.int .u8 4] 5)) HROW.out (by simp; omega) hown7 hat
      have hb7 : Below w.heap.size w w7 := (HB.out.alloc hz _).grown hgrow (by simp; omega) (fun k e => (HROW.out.lt k e).1)
      have HN := Lib.hid hn
      have HB7 := Lib.hid hb7
      clear hown7 hgrow hat hlt hn hb7
      go_wp2_with (fail)
      go_roundw
      case rel => exact ⟨m + 1, some ⟨gg, 0, none⟩, cap, by omega, rfl, by go_num, by have := HN.out; simpa [fours, List.replicate_succ'] using this, HB7.out⟩
      case measure => simp [intOf]; omega
    · obtain rfl : m = 60 := by omega
      obtain ⟨g, cap, hv, hg1, hg2⟩ := hrow.form (by omega)
      simp only [Value.slice.injEq] at hv
      obtain ⟨rfl, _⟩ := hv
      have hcells := hrow.cells (g := g) rfl
      have HC := Lib.hid hcells
      have HB := Lib.hid hB
      clear hcells hB hrow
      go_wp2_with (fail)
      go_ret
      refine ⟨g, vc, rfl, ⟨by simp, fun k x hx => ?_⟩, HB.out⟩
      have hx4 : x = 4 := List.eq_of_mem_replicate (List.mem_of_getElem? hx)
      subst hx4
      have hk : k < 60 := by
        obtain ⟨hl, _⟩ := List.getElem?_eq_some_iff.1 hx
        simpa using hl
      exact ⟨by omega, ⟨g, 0, none⟩, rfl, HC.out k (.int .u8 4) (by unfold fours; rw [List.getElem?_replicate, if_pos hk])⟩
end Go.Proofs.Ytfebcpmbkljaoaa
namespace Go.Proofs.Ytfebcpmbkljaoaa
set_option linter.unusedVariables false
set_option linter.unusedSimpArgs false
set_option linter.unusedSectionVars false
def nestT : Nat → PT
  | 0 => holeT
  | n + 1 => .node ruleR PO.nil [nestT n]
def fulT : PT := builtT (List.replicate 60 4)
def duoT : PT := .node ruleR PO.nil [fulT, fulT]
def bigT (k : Nat) : PT := .node ruleR PO.nil (List.replicate k duoT)
def holeP : PT := .node ⟨#[63]⟩ PO.nil [holeT]
theorem meas_all {t : PT} (h : measT t = true) : sizeT t ≤ 300 ∧ ∀ d ∈ stepsT [] whole t, okD d = true := by
  unfold measT at h
  have h2 := Bool.and_eq_true_iff.1 h
  exact ⟨of_decide_eq_true h2.1, List.all_eq_true.1 h2.2⟩
theorem meas_top {t : PT} (h : measT t = true) : okD ⟨[], whole, t⟩ = true := (meas_all h).2 _ (by rw [stepsT_eq]; exact List.mem_cons_self)
theorem bad_hole : measT holeP = false := by
  rw [Bool.eq_false_iff]
  intro h
  have := meas_top h
  simp [okD, holeP, PT.subs, PT.rule] at this
theorem bad_nine : measT (stepK 9) = false := by
  rw [Bool.eq_false_iff]
  intro h
  have := meas_top h
  simp [okD, stepK, PT.subs, PT.rule] at this
theorem nest_deep : ∀ (n : Nat) (pl : List Nat) (w : Nat), ∃ d ∈ stepsT pl w (nestT n), d.pl.length = pl.length + n
  | 0, pl, w => ⟨⟨pl, w, nestT 0⟩, by rw [stepsT_eq]; exact List.mem_cons_self, rfl⟩
  | n + 1, pl, w => by
    obtain ⟨d, hd, hl⟩ := nest_deep n (pl ++ [0]) (w / (2 * 1))
    refine ⟨d, ?_, by simp at hl; omega⟩
    rw [stepsT_eq]
    simp only [nestT, PT.subs, List.length_singleton, stepsF, List.append_nil]
    exact List.mem_cons_of_mem _ hd
theorem bad_deep : measT (nestT 41) = false := by
  rw [Bool.eq_false_iff]
  intro h
  obtain ⟨d, hd, hl⟩ := nest_deep 41 [] whole
  have := okD_pl ((meas_all h).2 d hd)
  simp at hl; omega
theorem sizeF_rep (k : Nat) (t : PT) : sizeF (List.replicate k t) = k * sizeT t := by
  induction k with
  | zero => simp [sizeF]
  | succ k ih => rw [List.replicate_succ, sizeF, ih, Nat.add_mul]; omega
theorem ful_size : sizeT fulT = 69 := by decide +kernel
theorem two_size : sizeT duoT = 139 := by simp only [duoT, sizeT, sizeF, ful_size]
theorem big_size (k : Nat) : sizeT (bigT k) = 1 + k * 139 := by simp only [bigT, sizeT, sizeF_rep, two_size]
theorem bad_big : measT (bigT 8) = false := by
  rw [Bool.eq_false_iff]
  intro h
  have := (meas_all h).1
  rw [big_size] at this; omega
theorem bad_whole : measT (.node ruleR PO.nil [bigT 8, bigT 8]) = false := by
  rw [Bool.eq_false_iff]
  intro h
  have := (meas_all h).1
  simp only [sizeT, sizeF, big_size] at this; omega
theorem plain_two : plainT duoT := ⟨rfl, rfl, rfl, built_plain _, built_plain _, trivial⟩
theorem plain_big (k : Nat) : plainT (bigT k) := ⟨rfl, rfl, rfl, (plainF_iff _).2 fun t ht => by rw [(List.mem_replicate.1 ht).2]; exact plain_two⟩
theorem plain_nest : ∀ n, plainT (nestT n)
  | 0 => plain_hole
  | n + 1 => ⟨rfl, rfl, rfl, plain_nest n, trivial⟩
theorem nest_size : ∀ n, sizeT (nestT n) = n + 1
  | 0 => by simp [nestT, holeT, sizeT, sizeF]
  | n + 1 => by simp only [nestT, sizeT, sizeF, nest_size n]; omega
mutual
theorem ok_shift {pl pl' : List Nat} {w w' : Nat} (hl : pl'.length ≤ pl.length) : ∀ t : PT, (∀ d ∈ stepsT pl w t, okD d = true) → ∀ d ∈ stepsT pl' w' t, okD d = true
  | .node r o s, h, d, hd => by
    rw [stepsT] at hd
    rcases List.mem_cons.1 hd with rfl | hd
    · have h0 := h ⟨pl, w, .node r o s⟩ (by rw [stepsT]; exact List.mem_cons_self)
      unfold okD at h0 ⊢
      simp only [Bool.and_eq_true, decide_eq_true_eq] at h0 ⊢
      exact ⟨⟨by omega, h0.1.2⟩, h0.2⟩
    · exact okF_shift (pl := pl) (w := w / (2 * s.length)) hl 0 s (fun d hd => h d (by rw [stepsT]; exact List.mem_cons_of_mem _ hd)) d hd
theorem okF_shift {pl pl' : List Nat} {w w' : Nat} (hl : pl'.length ≤ pl.length) : ∀ (i : Nat) (ts : List PT), (∀ d ∈ stepsF pl w i ts, okD d = true) → ∀ d ∈ stepsF pl' w' i ts, okD d = true
  | i, [], h, d, hd => by simp [stepsF] at hd
  | i, t :: ts, h, d, hd => by
    rw [stepsF] at hd
    rcases List.mem_append.1 hd with hd | hd
    · exact ok_shift (pl := pl ++ [i]) (w := w) (by simp; omega) t (fun d hd => h d (by rw [stepsF]; exact List.mem_append_left _ hd)) d hd
    · exact okF_shift (pl := pl) (w := w) hl (i + 1) ts (fun d hd => h d (by rw [stepsF]; exact List.mem_append_right _ hd)) d hd
end
theorem set_get {ts : List PT} {k : Nat} {q q' : PT} (h : ts[k]? = some q) : (ts.set k q')[k]? = some q' := by
  obtain ⟨hl, _⟩ := List.getElem?_eq_some_iff.1 h
  simp [hl]
theorem repl_ok {u : PT} : ∀ {is : List Int} {t q : PT} {pl : List Nat} {w : Nat}, replT t is u = some q → (∀ d ∈ stepsT pl w q, okD d = true) → sizeT u ≤ sizeT q ∧ ∀ d ∈ stepsT [] whole u, okD d = true
  | [], t, q, pl, w, h, hq => by
    rw [replT] at h; cases h
    exact ⟨Nat.le_refl _, ok_shift (by simp) u hq⟩
  | i :: is, .node r o s, q, pl, w, h, hq => by
    rw [replT] at h
    split at h
    · split at h
      · rename_i p hp
        obtain ⟨q', hq', rfl⟩ := Option.map_eq_some_iff.1 h
        have hg := set_get (q' := q') hp
        have := repl_ok (pl := pl ++ [i.toNat]) (w := w / (2 * (s.set i.toNat q').length)) hq' fun d hd => hq d (by
          rw [stepsT]
          refine List.mem_cons_of_mem _ (stepsF_at (k := i.toNat) (i := 0) hg ?_)
          rw [Nat.zero_add]; exact hd)
        refine ⟨?_, this.2⟩
        have h1 := sizeF_mem hg
        simp only [sizeT]; omega
      · cases h
    · cases h
theorem meas_part {t u q : PT} {is : List Int} (h : replT t is u = some q) (hm : measT q = true) : measT u = true := by
  obtain ⟨h1, h2⟩ := meas_all hm
  obtain ⟨h3, h4⟩ := repl_ok h h2
  unfold measT
  rw [Bool.and_eq_true_iff]
  exact ⟨decide_eq_true (by omega), List.all_eq_true.2 h4⟩
theorem repl_some {u : PT} {t h : PT} {w w' : Nat} {p : List Nat} (hw : walkT t w p = some (h, w')) : ∃ q, replT t (natI p) u = some q := by
  induction p generalizing t w with
  | nil => exact ⟨u, by simp [natI, replT]⟩
  | cons k p ih =>
    obtain ⟨q, hq, hw2⟩ := walkT_cons hw
    obtain ⟨q', hq'⟩ := ih hw2
    obtain ⟨r, o, s⟩ := t
    simp only [PT.subs] at hq
    exact ⟨.node r o (s.set k q'), by rw [replT_cons hq, hq']; rfl⟩
theorem sub_walk {t h : PT} {w w' : Nat} {p : List Nat} {is : List Int} (hw : walkT t w p = some (h, w')) : subT t (natI p ++ is) = subT h is := by
  induction p generalizing t w with
  | nil =>
    simp only [walkT, Option.some.injEq, Prod.mk.injEq] at hw
    obtain ⟨rfl, _⟩ := hw
    rfl
  | cons k p ih =>
    obtain ⟨q, hq, hw2⟩ := walkT_cons hw
    have := ih hw2
    rw [← this]
    exact subT_in hq
section
variable {L : List Nat} {d : StepD} (hd : d ∈ goalsB L)
include hd
theorem with_bad {u : PT} (hu : measT u = false) : withR (builtT L) u (natI d.pl) = (5, zeroT) := by
  obtain ⟨_, hw, _⟩ := goalsB_mem hd
  obtain ⟨q, hq⟩ := repl_some (u := u) hw
  have hmq : measT q = false := by
    rw [Bool.eq_false_iff]
    intro h
    rw [meas_part hq h] at hu
    cases hu
  unfold withR
  rw [if_pos (built_meas L), hq]
  simp only [hmq]; rfl
theorem at_beyond (m : Int) (hm : 0 ≤ m) : atR (builtT L) (natI d.pl ++ [m]) = (6, zeroT) := by
  obtain ⟨hr, hw, _⟩ := goalsB_mem hd
  have h0 : d.t.subs = [] := by
    have hs : d ∈ stepsT [] whole (mkT L 12 0).1 := by
      have h := hd
      rw [goalsB_eq] at h
      exact (goals_sub _ _ _ _).subset h
    exact (mkT_steps L 12 0 [] whole d hs).2.2 hr
  unfold atR
  rw [if_pos (built_meas L), sub_walk hw, subT_out (by rw [h0]; simp)]
end
theorem at_bad {t : PT} (h : measT t = false) (is : List Int) : atR t is = (2, zeroT) := by
  unfold atR
  rw [h]; rfl
theorem code_bad {t : PT} (h : measT t = false) (ws : List (List Int)) : codeL t ws = 2 := by
  unfold codeL
  rw [h]; rfl
theorem code_neg (L : List Nat) (m : Int) (hm : m < 0) : codeL (builtT L) [[m]] = 6 := by
  unfold codeL
  rw [if_pos (built_meas L), if_neg]
  intro h
  obtain ⟨d, _, e⟩ := h [m] (by simp)
  unfold plD at e
  cases hp : d.pl with
  | nil => rw [hp] at e; cases e
  | cons k ks =>
    rw [hp] at e
    simp only [List.map_cons, List.cons.injEq] at e
    omega
theorem with_neg (L : List Nat) (m : Int) (hm : m < 0) : withR (builtT L) holeT [m] = (6, zeroT) := by
  have hr : replT (builtT L) [m] holeT = none := by
    cases builtT L with
    | node r o s => rw [replT, if_neg (by omega)]
  unfold withR
  rw [if_pos (built_meas L), hr]
end Go.Proofs.Ytfebcpmbkljaoaa
namespace Go.Proofs.Ytfebcpmbkljaoaa
open Go.RowKit Go.HR
set_option linter.unusedVariables false
set_option linter.unusedSimpArgs false
set_option linter.unusedSectionVars false
theorem take_more {xs ys : List Int} {k : Nat} {x y : Int} (h : xs.take k = ys.take k) (hx : xs[k]? = some x) (hy : ys[k]? = some y) : xs.take (k + 1) = ys.take (k + 1) ↔ x = y := by
  rw [List.take_add_one, List.take_add_one, hx, hy, h]
  simp
set_option maxRecDepth 100000 in
set_option maxHeartbeats 4000000 in
/-- Are two rows of numbers equal? -/
theorem ints_call (w : World) (s t : SL) (xs ys : List Int) (hs : IsI w s xs) (ht : IsI w t ys) (hl : xs.length ≤ 20000) (hl2 : ys.length ≤ 20000) : Calls Try.prog 26 #[s.v, t.v] w (RetD w (.bool (decide (xs = ys)))) := by
  obtain ⟨a, n, c⟩ := s
  obtain ⟨b, m, e⟩ := t
  obtain ⟨hn, hc, hs⟩ := hs
  obtain ⟨hm, he, ht⟩ := ht
  simp only at hn hm hs ht hc he
  simp only [SL.v]
  rw [← hn] at hl
  rw [← hm] at hl2
  have HN := Lib.hid hn
  have HM := Lib.hid hm
  have HS := Lib.hid hs
  have HT := Lib.hid ht
  clear hn hm hs ht
  by_cases hnm : n = m
  · subst hnm
    go_enter Try.func26, Try.ntmps26
    go_wp2_with (fail)
    go_loopw [13] (fun i wr => ∃ k d : Nat, k ≤ n ∧ i = .int .i64 k ∧ wr = w.drewN d ∧ xs.take k = ys.take k) (fun i _ => n - (intOf i).toNat)
    case atStart => exact ⟨0, 0, by omega, rfl, rfl, rfl⟩
    case round =>
      obtain ⟨k, d, hk, rfl, rfl, heq⟩ := hrel
      have HQ := Lib.hid heq
      clear heq
      obtain ⟨w2, hw2⟩ : ∃ w2, w2 = w.drewN d := ⟨_, rfl⟩
      rw [← hw2]
      have HW2 := Lib.hid hw2
      by_cases h1 : k < n
      · obtain ⟨x, hx⟩ : ∃ x, xs[k]? = some x := ⟨_, List.getElem?_eq_getElem (by rw [← HN.out]; omega)⟩
        obtain ⟨y, hy⟩ : ∃ y, ys[k]? = some y := ⟨_, List.getElem?_eq_getElem (by rw [← HM.out]; omega)⟩
        obtain ⟨g, o, rfl, hc1⟩ := HS.out.resolve_left (fun e => by rw [e] at hx; simp at hx)
        obtain ⟨g2, o2, rfl, hc2⟩ := HT.out.resolve_left (fun e => by rw [e] at hy; simp at hy)
        have c1 : ∀ q, (w2.drewN q).cell? ⟨g, o + k, none⟩ = some (.int .i64 x) := fun q => by rw [hw2]; exact hc1 k x hx
        have c2 : ∀ q, (w2.drewN q).cell? ⟨g2, o2 + k, none⟩ = some (.int .i64 y) := fun q => by rw [hw2]; exact hc2 k y hy
        have c3 := c1 0
        have c4 := c2 0
        have h3 := take_more HQ.out hx hy
        have hne : x ≠ y → decide (xs = ys) = false := fun e => decide_eq_false fun e2 => e (h3.1 (by rw [e2]))
        have HX := Lib.hid h3
        have HNE := Lib.hid hne
        clear hc1 hc2 hx hy h3 hw2 hne
        have b1 : (0 : Int) ≤ (k : Int) := by omega
        have b2 : (k : Int) < (n : Int) := by omega
        by_cases hxy : x = y
        · subst hxy
          go_wp2_with (fail)
          go_quiet (fail)
          go_wp2_with (fail)
          go_roundw
          case rel => exact ⟨k + 1, d + nq, by omega, by go_num, by rw [HW2.out]; simp, HX.out.2 (by trivial)⟩
          case measure => simp [intOf]; omega
        · have hd := HNE.out hxy
          rw [hd]
          go_wp2_with (fail)
          go_quiet (fail)
          go_wp2_with (fail)
          go_ret
          exact ⟨rfl, _, by rw [HW2.out]; simp; rfl⟩
      · have hkl : k = n := by omega
        have hE : decide (xs = ys) = true := decide_eq_true (by
          have e1 : xs.take k = xs := List.take_of_length_le (by rw [← HN.out]; omega)
          have e2 : ys.take k = ys := List.take_of_length_le (by rw [← HM.out]; omega)
          rw [← e1, ← e2]; exact HQ.out)
        rw [hE]
        have b4 : ¬ ((k : Int) < (n : Int)) := by omega
        clear hw2
        go_wp2_with (fail)
        go_ret
        exact ⟨rfl, d, HW2.out⟩
  · have hE : decide (xs = ys) = false := decide_eq_false fun e => hnm (by rw [HN.out, HM.out, e])
    rw [hE]
    have b1 : ((n : Int) == (m : Int)) = false := by simp; omega
    have b2 : ¬ (n : Int) = (m : Int) := by omega
    go_enter Try.func26, Try.ntmps26
    go_wp2_with (fail)
    go_ret
    exact ⟨rfl, 0, rfl⟩
end Go.Proofs.Ytfebcpmbkljaoaa
