/- ParseLevels (4): the walk. plev.py prints this text. -/
import Derived.Test.YtdobflpbkfkmgaaDoorWri
import Derived.Test.YtdobflpbkfkmgaaDoorLva
import Derived.Test.YtdobflpbkfkmgaaDoorEad
import Derived.Test.YtdobflpbkfkmgaaDoorLvb
namespace Go.Proofs.YtdobflpbkfkmgaaDoor
open Go.RowKit Go.HK Go.FR
set_option linter.unusedVariables false
set_option linter.unusedSimpArgs false
set_option linter.unusedSectionVars false
def zO (l : Nat) : Nat := if l = 0 then 3 else l + 9
def BoxAt (W : World) (p : Nat) (cs : Array Value) : Prop := W.heap[p]? = some (.cells cs 25 (0, 0))
theorem BoxAt.up {W W' : World} {p : Nat} {cs : Array Value} (h : BoxAt W p cs) (hB : Below W.heap.size W W') : BoxAt W' p cs := (hB.block _ (HK.blk_lt h)).trans h
theorem sizf_in {w W : World} {f : Fm} {a s : SL} (h : InF w f a s) (hB : Below w.heap.size w W) : Calls Tryd.prog 17 #[fmA f a s, .int .i64 100] W fun e w' => e = .returned (.int .i64 (siF f 100)) ∧ Below W.heap.size W w' := sizf_t f h.sz W a s 100 (h.up hB).ta (h.up hB).ts
theorem right_in {w W : World} {f : Fm} {a s : SL} (hL : LaidAll W) (h : InF w f a s) (hB : Below w.heap.size w W) : Calls Tryd.prog 15 #[fmA f a s] W (RetW W (rightF f)) := right_call W f a s hL.rows h.sz (h.up hB).ta (h.up hB).ts h.op h.nm
theorem full_in {w W : World} {f : Fm} {a s : SL} (h : InF w f a s) (hB : Below w.heap.size w W) (hr : rightF f = true) : Calls Tryd.prog 12 #[fmA f a s] W fun e w' => e = .returned (.string (mkS (fullF f))) ∧ Below W.heap.size W w' := by
  obtain ⟨hg, hn⟩ := good_of_right hr
  exact full_call (D := ⟨40, false⟩) (by decide) f 1 hg W a s (h.up hB).ta (h.up hB).ts (by have := len_F f 1 hg; omega)
set_option maxRecDepth 100000 in
set_option maxHeartbeats 8000000 in
theorem levels_skip (w : World) (fa fb fc : Fm) (xa ya xb yb xc yc : SL) (i1 i2 i3 : Int) (hL : LaidAll w) (ha : InF w fa xa ya) (hb : InF w fb xb yb) (hc : InF w fc xc yc)
    (hn : ¬ (¬ 100 < siF fa 100 ∧ ¬ 100 < siF fb 100 ∧ ¬ 100 < siF fc 100 ∧ rightF fa = true ∧ rightF fb = true ∧ rightF fc = true)) : Calls Tryd.prog 4 #[fmA fa xa ya, fmA fb xb yb, fmA fc xc yc, .int .u8 i1, .int .u8 i2, .int .u8 i3] w (RetOk w) := by
  have hA := fun (W : World) (hB : Below w.heap.size w W) => awake_any W (hL.below hB).signs (hL.below hB).levels (hL.below hB).rows
  unfold RetA1 at hA
  have hsa := fun (W : World) (hB : Below w.heap.size w W) => sizf_in ha hB
  have hra := fun (W : World) (hB : Below w.heap.size w W) => right_in (hL.below hB) ha hB
  unfold RetW at hra
  obtain ⟨va, hva⟩ : ∃ v, v = siF fa 100 := ⟨_, rfl⟩
  obtain ⟨ra, hea⟩ : ∃ r, r = rightF fa := ⟨_, rfl⟩
  rw [← hva] at hsa hn
  rw [← hea] at hra hn
  have hsb := fun (W : World) (hB : Below w.heap.size w W) => sizf_in hb hB
  have hrb := fun (W : World) (hB : Below w.heap.size w W) => right_in (hL.below hB) hb hB
  unfold RetW at hrb
  obtain ⟨vb, hvb⟩ : ∃ v, v = siF fb 100 := ⟨_, rfl⟩
  obtain ⟨rb, heb⟩ : ∃ r, r = rightF fb := ⟨_, rfl⟩
  rw [← hvb] at hsb hn
  rw [← heb] at hrb hn
  have hsc := fun (W : World) (hB : Below w.heap.size w W) => sizf_in hc hB
  have hrc := fun (W : World) (hB : Below w.heap.size w W) => right_in (hL.below hB) hc hB
  unfold RetW at hrc
  obtain ⟨vc, hvc⟩ : ∃ v, v = siF fc 100 := ⟨_, rfl⟩
  obtain ⟨rc, hec⟩ : ∃ r, r = rightF fc := ⟨_, rfl⟩
  rw [← hvc] at hsc hn
  rw [← hec] at hrc hn
  clear hva hea hvb heb hvc hec ha hb hc hL
  obtain ⟨oa, na, ga, ha⟩ := fa
  obtain ⟨aa, pa, qa⟩ := xa
  obtain ⟨sa, ta, ua⟩ := ya
  obtain ⟨ob, nb, gb, hb⟩ := fb
  obtain ⟨ab, pb, qb⟩ := xb
  obtain ⟨sb, tb, ub⟩ := yb
  obtain ⟨oc, nc, gc, hc⟩ := fc
  obtain ⟨ac, pc, qc⟩ := xc
  obtain ⟨sc, tc, uc⟩ := yc
  simp only [fmA, FR.Fm.op, FR.Fm.name, SL.v] at hsa hsb hsc hra hrb hrc ⊢
  have HSa := Lib.hid hsa
  have HRa := Lib.hid hra
  have HSb := Lib.hid hsb
  have HRb := Lib.hid hrb
  have HSc := Lib.hid hsc
  have HRc := Lib.hid hrc
  have HA := Lib.hid hA
  have HN := Lib.hid hn
  clear hsa hsb hsc hra hrb hrc hA hn
  go_enter Tryd.func4, Tryd.ntmps4
  go_upto_region 1 with (fail)
  obtain ⟨w1, hw1⟩ : ∃ w1, w1 = ((w.alloc (.cells #[.int .u8 (oa : Int), .string na, .slice aa pa qa, .slice sa ta ua] 25)).alloc (.cells #[.int .u8 (ob : Int), .string nb, .slice ab pb qb, .slice sb tb ub] 25)).alloc (.cells #[.int .u8 (oc : Int), .string nc, .slice ac pc qc, .slice sc tc uc] 25) := ⟨_, rfl⟩
  have hB1 : Below w.heap.size w w1 := by rw [hw1]; exact (((Below.refl _ w).alloc (Nat.le_refl _) _).alloc (by simp) _).alloc (by simp; omega) _
  have ka1 : BoxAt w1 (w.heap.size) #[.int .u8 (oa : Int), .string na, .slice aa pa qa, .slice sa ta ua] := by rw [hw1]; exact HK.blk_alloc (HK.blk_alloc (HK.blk_new _ _) _) _
  have kb1 : BoxAt w1 (w.heap.size + 1) #[.int .u8 (ob : Int), .string nb, .slice ab pb qb, .slice sb tb ub] := by rw [hw1]; have := HK.blk_alloc (HK.blk_new (w.alloc (.cells #[.int .u8 (oa : Int), .string na, .slice aa pa qa, .slice sa ta ua] 25)) (.cells #[.int .u8 (ob : Int), .string nb, .slice ab pb qb, .slice sb tb ub] 25)) (.cells #[.int .u8 (oc : Int), .string nc, .slice ac pc qc, .slice sc tc uc] 25); simpa [BoxAt] using this
  have kc1 : BoxAt w1 (w.heap.size + 1 + 1) #[.int .u8 (oc : Int), .string nc, .slice ac pc qc, .slice sc tc uc] := by rw [hw1]; have := HK.blk_new ((w.alloc (.cells #[.int .u8 (oa : Int), .string na, .slice aa pa qa, .slice sa ta ua] 25)).alloc (.cells #[.int .u8 (ob : Int), .string nb, .slice ab pb qb, .slice sb tb ub] 25)) (.cells #[.int .u8 (oc : Int), .string nc, .slice ac pc qc, .slice sc tc uc] 25); simpa [BoxAt] using this
  have hsz1 : w1.heap.size = w.heap.size + 1 + 1 + 1 := by rw [hw1]; simp
  rw [← hw1]
  have HB1 := Lib.hid hB1
  have HKa1 := Lib.hid ka1
  have HKb1 := Lib.hid kb1
  have HKc1 := Lib.hid kc1
  have HSZ1 := Lib.hid hsz1
  clear ka1 kb1 kc1 hw1 hB1 hsz1
  go_wp2_with (fail)
  go_at_call 9
  with_reducible refine (HA.out _ HB1.out).mono ?_
  rintro _ w2 ⟨rfl, hB⟩
  have HKa2 := Lib.hid (HKa1.out.up hB)
  have HKb2 := Lib.hid (HKb1.out.up hB)
  have HKc2 := Lib.hid (HKc1.out.up hB)
  have HB2 := Lib.hid (HB1.out.trans (hB.mono HB1.out.size))
  clear hB
  have za0 := HK.blk_cell HKa2.out 0
  have za1 := HK.blk_cell HKa2.out 1
  have za2 := HK.blk_cell HKa2.out 2
  have za3 := HK.blk_cell HKa2.out 3
  go_wp2_with (fail)
  go_at_call 17
  with_reducible refine (HSa.out _ HB2.out).mono ?_
  rintro _ w3 ⟨rfl, hB⟩
  have HKa3 := Lib.hid (HKa2.out.up hB)
  have HKb3 := Lib.hid (HKb2.out.up hB)
  have HKc3 := Lib.hid (HKc2.out.up hB)
  have HB3 := Lib.hid (HB2.out.trans (hB.mono HB2.out.size))
  clear hB za0 za1 za2 za3
  have zb0 := HK.blk_cell HKb3.out 0
  have zb1 := HK.blk_cell HKb3.out 1
  have zb2 := HK.blk_cell HKb3.out 2
  have zb3 := HK.blk_cell HKb3.out 3
  by_cases d3 : 100 < va
  · go_wp2_with (fail)
    go_ret
    exact ⟨rfl, HB3.out⟩
  go_wp2_with (fail)
  go_at_call 17
  with_reducible refine (HSb.out _ HB3.out).mono ?_
  rintro _ w4 ⟨rfl, hB⟩
  have HKa4 := Lib.hid (HKa3.out.up hB)
  have HKb4 := Lib.hid (HKb3.out.up hB)
  have HKc4 := Lib.hid (HKc3.out.up hB)
  have HB4 := Lib.hid (HB3.out.trans (hB.mono HB3.out.size))
  clear hB zb0 zb1 zb2 zb3
  have zc0 := HK.blk_cell HKc4.out 0
  have zc1 := HK.blk_cell HKc4.out 1
  have zc2 := HK.blk_cell HKc4.out 2
  have zc3 := HK.blk_cell HKc4.out 3
  by_cases d4 : 100 < vb
  · go_wp2_with (fail)
    go_ret
    exact ⟨rfl, HB4.out⟩
  go_wp2_with (fail)
  go_at_call 17
  with_reducible refine (HSc.out _ HB4.out).mono ?_
  rintro _ w5 ⟨rfl, hB⟩
  have HKa5 := Lib.hid (HKa4.out.up hB)
  have HKb5 := Lib.hid (HKb4.out.up hB)
  have HKc5 := Lib.hid (HKc4.out.up hB)
  have HB5 := Lib.hid (HB4.out.trans (hB.mono HB4.out.size))
  clear hB zc0 zc1 zc2 zc3
  have za0 := HK.blk_cell HKa5.out 0
  have za1 := HK.blk_cell HKa5.out 1
  have za2 := HK.blk_cell HKa5.out 2
  have za3 := HK.blk_cell HKa5.out 3
  by_cases d5 : 100 < vc
  · go_wp2_with (fail)
    go_ret
    exact ⟨rfl, HB5.out⟩
  go_wp2_with (fail)
  go_at_call 15
  with_reducible refine (HRa.out _ HB5.out).mono ?_
  rintro _ w6 ⟨rfl, hB⟩
  have HKa6 := Lib.hid (HKa5.out.up hB)
  have HKb6 := Lib.hid (HKb5.out.up hB)
  have HKc6 := Lib.hid (HKc5.out.up hB)
  have HB6 := Lib.hid (HB5.out.trans (hB.mono HB5.out.size))
  clear hB za0 za1 za2 za3
  have zb0 := HK.blk_cell HKb6.out 0
  have zb1 := HK.blk_cell HKb6.out 1
  have zb2 := HK.blk_cell HKb6.out 2
  have zb3 := HK.blk_cell HKb6.out 3
  rcases ra with _ | _
  · go_wp2_with (fail)
    go_ret
    exact ⟨rfl, HB6.out⟩
  go_wp2_with (fail)
  go_at_call 15
  with_reducible refine (HRb.out _ HB6.out).mono ?_
  rintro _ w7 ⟨rfl, hB⟩
  have HKa7 := Lib.hid (HKa6.out.up hB)
  have HKb7 := Lib.hid (HKb6.out.up hB)
  have HKc7 := Lib.hid (HKc6.out.up hB)
  have HB7 := Lib.hid (HB6.out.trans (hB.mono HB6.out.size))
  clear hB zb0 zb1 zb2 zb3
  have zc0 := HK.blk_cell HKc7.out 0
  have zc1 := HK.blk_cell HKc7.out 1
  have zc2 := HK.blk_cell HKc7.out 2
  have zc3 := HK.blk_cell HKc7.out 3
  rcases rb with _ | _
  · go_wp2_with (fail)
    go_ret
    exact ⟨rfl, HB7.out⟩
  go_wp2_with (fail)
  go_at_call 15
  with_reducible refine (HRc.out _ HB7.out).mono ?_
  rintro _ w8 ⟨rfl, hB⟩
  have HKa8 := Lib.hid (HKa7.out.up hB)
  have HKb8 := Lib.hid (HKb7.out.up hB)
  have HKc8 := Lib.hid (HKc7.out.up hB)
  have HB8 := Lib.hid (HB7.out.trans (hB.mono HB7.out.size))
  clear hB zc0 zc1 zc2 zc3
  rcases rc with _ | _
  · go_wp2_with (fail)
    go_ret
    exact ⟨rfl, HB8.out⟩
  exact absurd ⟨d3, d4, d5, by first | rfl | trivial, by first | rfl | trivial, by first | rfl | trivial⟩ HN.out
set_option maxRecDepth 100000 in
set_option maxHeartbeats 8000000 in
theorem levels_main (w : World) (fa fb fc : Fm) (xa ya xb yb xc yc : SL) (n1 n2 n3 i j l : Nat) (hL : LaidAll w) (ha : InF w fa xa ya) (hb : InF w fb xb yb) (hc : InF w fc xc yc)
    (hi : i < 5) (hj : j < 5) (hl : l < 5) (hni : (n1 : Int).tmod 5 = (i : Int)) (hnj : (n2 : Int).tmod 5 = (j : Int)) (hnl : (n3 : Int).tmod 5 = (l : Int))
    (da : ¬ 100 < siF fa 100) (db : ¬ 100 < siF fb 100) (dc : ¬ 100 < siF fc 100) (ra : rightF fa = true) (rb : rightF fb = true) (rc : rightF fc = true) : Calls Tryd.prog 4 #[fmA fa xa ya, fmA fb xb yb, fmA fc xc yc, .int .u8 (n1 : Int), .int .u8 (n2 : Int), .int .u8 (n3 : Int)] w (RetOk w) := by
  have hA := fun (W : World) (hB : Below w.heap.size w W) => awake_any W (hL.below hB).signs (hL.below hB).levels (hL.below hB).rows
  unfold RetA1 at hA
  have hsa := fun (W : World) (hB : Below w.heap.size w W) => sizf_in ha hB
  have hra := fun (W : World) (hB : Below w.heap.size w W) => right_in (hL.below hB) ha hB
  have hfa := fun (W : World) (hB : Below w.heap.size w W) => full_in ha hB ra
  unfold RetW at hra
  rw [ra] at hra
  have hza : (mkS (fullF fa)).size ≤ 3200 := by
    rw [mk_size]
    have h1 := size_le ra da
    have h2 := len_F fa 1 (good_of_right ra).1
    omega
  have hNa := size_le ra da
  obtain ⟨ea, hea⟩ : ∃ e, e = mkS (fullF fa) := ⟨_, rfl⟩
  have hya : bys ea = fullF fa := by rw [hea, bys_mk]
  rw [← hea] at hfa hza
  obtain ⟨va, hva⟩ : ∃ v, v = siF fa 100 := ⟨_, rfl⟩
  rw [← hva] at hsa da
  have hsb := fun (W : World) (hB : Below w.heap.size w W) => sizf_in hb hB
  have hrb := fun (W : World) (hB : Below w.heap.size w W) => right_in (hL.below hB) hb hB
  have hfb := fun (W : World) (hB : Below w.heap.size w W) => full_in hb hB rb
  unfold RetW at hrb
  rw [rb] at hrb
  have hzb : (mkS (fullF fb)).size ≤ 3200 := by
    rw [mk_size]
    have h1 := size_le rb db
    have h2 := len_F fb 1 (good_of_right rb).1
    omega
  have hNb := size_le rb db
  obtain ⟨eb, heb⟩ : ∃ e, e = mkS (fullF fb) := ⟨_, rfl⟩
  have hyb : bys eb = fullF fb := by rw [heb, bys_mk]
  rw [← heb] at hfb hzb
  obtain ⟨vb, hvb⟩ : ∃ v, v = siF fb 100 := ⟨_, rfl⟩
  rw [← hvb] at hsb db
  have hsc := fun (W : World) (hB : Below w.heap.size w W) => sizf_in hc hB
  have hrc := fun (W : World) (hB : Below w.heap.size w W) => right_in (hL.below hB) hc hB
  have hfc := fun (W : World) (hB : Below w.heap.size w W) => full_in hc hB rc
  unfold RetW at hrc
  rw [rc] at hrc
  have hzc : (mkS (fullF fc)).size ≤ 3200 := by
    rw [mk_size]
    have h1 := size_le rc dc
    have h2 := len_F fc 1 (good_of_right rc).1
    omega
  have hNc := size_le rc dc
  obtain ⟨ec, hec⟩ : ∃ e, e = mkS (fullF fc) := ⟨_, rfl⟩
  have hyc : bys ec = fullF fc := by rw [hec, bys_mk]
  rw [← hec] at hfc hzc
  obtain ⟨vc, hvc⟩ : ∃ v, v = siF fc 100 := ⟨_, rfl⟩
  rw [← hvc] at hsc dc
  have hoz : ∀ k, k < 5 → 3 ≤ zO k ∧ zO k ≤ 14 ∧ (opS (zO k)).length ≤ 10 ∧ 3 ≤ lvO k ∧ lvO k ≤ 14 ∧ (opS (lvO k)).length ≤ 10 := fun k hk => by
    rcases (by omega : k = 0 ∨ k = 1 ∨ k = 2 ∨ k = 3 ∨ k = 4) with rfl | rfl | rfl | rfl | rfl <;> decide
  have hRD := rdF_levels (z := zO l) hi hj (by unfold zO; split <;> omega) (good_of_right ra).1 (good_of_right rb).1 (good_of_right rc).1
  rw [← hya, ← hyb, ← hyc] at hRD
  obtain ⟨sz, hsz⟩ : ∃ s, s = mkS (opS (zO l)) := ⟨_, rfl⟩
  obtain ⟨sx, hsx⟩ : ∃ s, s = mkS (opS (lvO i)) := ⟨_, rfl⟩
  obtain ⟨sy, hsy⟩ : ∃ s, s = mkS (opS (lvO j)) := ⟨_, rfl⟩
  have hcz := fun (W : World) => sign_call W (zO l) (hoz l hl).1 (hoz l hl).2.1
  have hcx := fun (W : World) => sign_call W (lvO i) (hoz i hi).2.2.2.1 (hoz i hi).2.2.2.2.1
  have hcy := fun (W : World) => sign_call W (lvO j) (hoz j hj).2.2.2.1 (hoz j hj).2.2.2.2.1
  rw [← hsz] at hcz
  rw [← hsx] at hcx
  rw [← hsy] at hcy
  have HSZ : Hid (ea.size ≤ 3200 ∧ eb.size ≤ 3200 ∧ ec.size ≤ 3200 ∧ sz.size ≤ 10 ∧ sx.size ≤ 10 ∧ sy.size ≤ 10) := Lib.hid ⟨hza, hzb, hzc, by rw [hsz, mk_size]; exact (hoz l hl).2.2.1, by rw [hsx, mk_size]; exact (hoz i hi).2.2.2.2.2, by rw [hsy, mk_size]; exact (hoz j hj).2.2.2.2.2⟩
  have HNN : Hid (nodesF fa ≤ 100 ∧ nodesF fb ≤ 100 ∧ nodesF fc ≤ 100) := Lib.hid ⟨hNa, hNb, hNc⟩
  have e8 : levT (zO l) (lvO i) (lvO j) (bys ea) (bys eb) (bys ec) = bys ((((((((((((sz ++ ⟨#[32, 40]⟩) ++ ea) ++ ⟨#[41, 32]⟩) ++ sx) ++ ⟨#[32, 40]⟩) ++ eb) ++ ⟨#[41, 32]⟩) ++ sy) ++ ⟨#[32, 40]⟩) ++ ec) ++ ⟨#[41]⟩)) := by
    simp only [bysC, levT, hsz, hsx, hsy, bys_mk, List.append_assoc]
    rfl
  rw [e8] at hRD
  have HRD := Lib.hid hRD
  obtain ⟨vi, hvi⟩ : ∃ v, v = ((i + 1 : Nat) : Int) := ⟨_, rfl⟩
  obtain ⟨vj, hvj⟩ : ∃ v, v = ((j + 1 : Nat) : Int) := ⟨_, rfl⟩
  obtain ⟨bi, hbi⟩ : ∃ b, b = lvR i := ⟨_, rfl⟩
  obtain ⟨bj, hbj⟩ : ∃ b, b = lvR j := ⟨_, rfl⟩
  have hrx := fun (W : World) => rank_call W i hi
  have hry := fun (W : World) => rank_call W j hj
  rw [← hvi, ← hbi] at hrx
  rw [← hvj, ← hbj] at hry
  have HRX := Lib.hid hrx
  have HRY := Lib.hid hry
  have HVI : Hid (vi = (i : Int) + 1 ∧ vj = (j : Int) + 1 ∧ bi = lvR i) := Lib.hid ⟨by rw [hvi]; omega, by rw [hvj]; omega, hbi⟩
  clear hrx hry hvi hvj hbi hbj
  have HCZ := Lib.hid hcz
  have HCX := Lib.hid hcx
  have HCY := Lib.hid hcy
  clear hva hvb hvc hza hzb hzc hea heb hec hya hyb hyc hNa hNb hNc hRD hcz hcx hcy e8 hoz hsz hsx hsy
  obtain ⟨oa, na, ga, ha⟩ := fa
  obtain ⟨aa, pa, qa⟩ := xa
  obtain ⟨sa, ta, ua⟩ := ya
  obtain ⟨ob, nb, gb, hb⟩ := fb
  obtain ⟨ab, pb, qb⟩ := xb
  obtain ⟨sb, tb, ub⟩ := yb
  obtain ⟨oc, nc, gc, hc⟩ := fc
  obtain ⟨ac, pc, qc⟩ := xc
  obtain ⟨sc, tc, uc⟩ := yc
  simp only [fmA, FR.Fm.op, FR.Fm.name, SL.v] at hsa hsb hsc hra hrb hrc hfa hfb hfc ⊢
  have HSa := Lib.hid hsa
  have HRa := Lib.hid hra
  have HFa := Lib.hid hfa
  have HSb := Lib.hid hsb
  have HRb := Lib.hid hrb
  have HFb := Lib.hid hfb
  have HSc := Lib.hid hsc
  have HRc := Lib.hid hrc
  have HFc := Lib.hid hfc
  have HA := Lib.hid hA
  have HL := Lib.hid hL
  have HIA := Lib.hid ha
  have HIB := Lib.hid hb
  have HIC := Lib.hid hc
  clear hsa hsb hsc hra hrb hrc hA hfa hfb hfc hL ha hb hc ra rb rc
  go_enter Tryd.func4, Tryd.ntmps4
  go_upto_region 1 with (fail)
  obtain ⟨w1, hw1⟩ : ∃ w1, w1 = ((w.alloc (.cells #[.int .u8 (oa : Int), .string na, .slice aa pa qa, .slice sa ta ua] 25)).alloc (.cells #[.int .u8 (ob : Int), .string nb, .slice ab pb qb, .slice sb tb ub] 25)).alloc (.cells #[.int .u8 (oc : Int), .string nc, .slice ac pc qc, .slice sc tc uc] 25) := ⟨_, rfl⟩
  have hB1 : Below w.heap.size w w1 := by rw [hw1]; exact (((Below.refl _ w).alloc (Nat.le_refl _) _).alloc (by simp) _).alloc (by simp; omega) _
  have ka1 : BoxAt w1 (w.heap.size) #[.int .u8 (oa : Int), .string na, .slice aa pa qa, .slice sa ta ua] := by rw [hw1]; exact HK.blk_alloc (HK.blk_alloc (HK.blk_new _ _) _) _
  have kb1 : BoxAt w1 (w.heap.size + 1) #[.int .u8 (ob : Int), .string nb, .slice ab pb qb, .slice sb tb ub] := by rw [hw1]; have := HK.blk_alloc (HK.blk_new (w.alloc (.cells #[.int .u8 (oa : Int), .string na, .slice aa pa qa, .slice sa ta ua] 25)) (.cells #[.int .u8 (ob : Int), .string nb, .slice ab pb qb, .slice sb tb ub] 25)) (.cells #[.int .u8 (oc : Int), .string nc, .slice ac pc qc, .slice sc tc uc] 25); simpa [BoxAt] using this
  have kc1 : BoxAt w1 (w.heap.size + 1 + 1) #[.int .u8 (oc : Int), .string nc, .slice ac pc qc, .slice sc tc uc] := by rw [hw1]; have := HK.blk_new ((w.alloc (.cells #[.int .u8 (oa : Int), .string na, .slice aa pa qa, .slice sa ta ua] 25)).alloc (.cells #[.int .u8 (ob : Int), .string nb, .slice ab pb qb, .slice sb tb ub] 25)) (.cells #[.int .u8 (oc : Int), .string nc, .slice ac pc qc, .slice sc tc uc] 25); simpa [BoxAt] using this
  have hsz1 : w1.heap.size = w.heap.size + 1 + 1 + 1 := by rw [hw1]; simp
  rw [← hw1]
  have HB1 := Lib.hid hB1
  have HKa1 := Lib.hid ka1
  have HKb1 := Lib.hid kb1
  have HKc1 := Lib.hid kc1
  have HSZ1 := Lib.hid hsz1
  clear ka1 kb1 kc1 hw1 hB1 hsz1
  go_wp2_with (fail)
  go_at_call 9
  with_reducible refine (HA.out _ HB1.out).mono ?_
  rintro _ w2 ⟨rfl, hB⟩
  have HKa2 := Lib.hid (HKa1.out.up hB)
  have HKb2 := Lib.hid (HKb1.out.up hB)
  have HKc2 := Lib.hid (HKc1.out.up hB)
  have HB2 := Lib.hid (HB1.out.trans (hB.mono HB1.out.size))
  clear hB
  have za0 := HK.blk_cell HKa2.out 0
  have za1 := HK.blk_cell HKa2.out 1
  have za2 := HK.blk_cell HKa2.out 2
  have za3 := HK.blk_cell HKa2.out 3
  go_wp2_with (fail)
  go_at_call 17
  with_reducible refine (HSa.out _ HB2.out).mono ?_
  rintro _ w3 ⟨rfl, hB⟩
  have HKa3 := Lib.hid (HKa2.out.up hB)
  have HKb3 := Lib.hid (HKb2.out.up hB)
  have HKc3 := Lib.hid (HKc2.out.up hB)
  have HB3 := Lib.hid (HB2.out.trans (hB.mono HB2.out.size))
  clear hB za0 za1 za2 za3
  have zb0 := HK.blk_cell HKb3.out 0
  have zb1 := HK.blk_cell HKb3.out 1
  have zb2 := HK.blk_cell HKb3.out 2
  have zb3 := HK.blk_cell HKb3.out 3
  go_wp2_with (fail)
  go_at_call 17
  with_reducible refine (HSb.out _ HB3.out).mono ?_
  rintro _ w4 ⟨rfl, hB⟩
  have HKa4 := Lib.hid (HKa3.out.up hB)
  have HKb4 := Lib.hid (HKb3.out.up hB)
  have HKc4 := Lib.hid (HKc3.out.up hB)
  have HB4 := Lib.hid (HB3.out.trans (hB.mono HB3.out.size))
  clear hB zb0 zb1 zb2 zb3
  have zc0 := HK.blk_cell HKc4.out 0
  have zc1 := HK.blk_cell HKc4.out 1
  have zc2 := HK.blk_cell HKc4.out 2
  have zc3 := HK.blk_cell HKc4.out 3
  go_wp2_with (fail)
  go_at_call 17
  with_reducible refine (HSc.out _ HB4.out).mono ?_
  rintro _ w5 ⟨rfl, hB⟩
  have HKa5 := Lib.hid (HKa4.out.up hB)
  have HKb5 := Lib.hid (HKb4.out.up hB)
  have HKc5 := Lib.hid (HKc4.out.up hB)
  have HB5 := Lib.hid (HB4.out.trans (hB.mono HB4.out.size))
  clear hB zc0 zc1 zc2 zc3
  have za0 := HK.blk_cell HKa5.out 0
  have za1 := HK.blk_cell HKa5.out 1
  have za2 := HK.blk_cell HKa5.out 2
  have za3 := HK.blk_cell HKa5.out 3
  go_wp2_with (fail)
  go_at_call 15
  with_reducible refine (HRa.out _ HB5.out).mono ?_
  rintro _ w6 ⟨rfl, hB⟩
  have HKa6 := Lib.hid (HKa5.out.up hB)
  have HKb6 := Lib.hid (HKb5.out.up hB)
  have HKc6 := Lib.hid (HKc5.out.up hB)
  have HB6 := Lib.hid (HB5.out.trans (hB.mono HB5.out.size))
  clear hB za0 za1 za2 za3
  have zb0 := HK.blk_cell HKb6.out 0
  have zb1 := HK.blk_cell HKb6.out 1
  have zb2 := HK.blk_cell HKb6.out 2
  have zb3 := HK.blk_cell HKb6.out 3
  go_wp2_with (fail)
  go_at_call 15
  with_reducible refine (HRb.out _ HB6.out).mono ?_
  rintro _ w7 ⟨rfl, hB⟩
  have HKa7 := Lib.hid (HKa6.out.up hB)
  have HKb7 := Lib.hid (HKb6.out.up hB)
  have HKc7 := Lib.hid (HKc6.out.up hB)
  have HB7 := Lib.hid (HB6.out.trans (hB.mono HB6.out.size))
  clear hB zb0 zb1 zb2 zb3
  have zc0 := HK.blk_cell HKc7.out 0
  have zc1 := HK.blk_cell HKc7.out 1
  have zc2 := HK.blk_cell HKc7.out 2
  have zc3 := HK.blk_cell HKc7.out 3
  go_wp2_with (fail)
  go_at_call 15
  with_reducible refine (HRc.out _ HB7.out).mono ?_
  rintro _ w8 ⟨rfl, hB⟩
  have HKa8 := Lib.hid (HKa7.out.up hB)
  have HKb8 := Lib.hid (HKb7.out.up hB)
  have HKc8 := Lib.hid (HKc7.out.up hB)
  have HB8 := Lib.hid (HB7.out.trans (hB.mono HB7.out.size))
  clear hB zc0 zc1 zc2 zc3
  go_upto_region 6 with (fail)
  have HKa9 := Lib.hid (HKa8.out.up (bl_al9 (.cells #[.int .u8 7, .int .u8 6, .int .u8 14, .int .u8 5, .int .u8 4] 5)))
  have HKb9 := Lib.hid (HKb8.out.up (bl_al9 (.cells #[.int .u8 7, .int .u8 6, .int .u8 14, .int .u8 5, .int .u8 4] 5)))
  have HKc9 := Lib.hid (HKc8.out.up (bl_al9 (.cells #[.int .u8 7, .int .u8 6, .int .u8 14, .int .u8 5, .int .u8 4] 5)))
  have HB9 := Lib.hid (HB8.out.trans ((bl_al9 (W := w8) (.cells #[.int .u8 7, .int .u8 6, .int .u8 14, .int .u8 5, .int .u8 4] 5)).mono HB8.out.size))
  have HO9 : Hid (∀ k, k < 5 → (w8.alloc (.cells #[.int .u8 7, .int .u8 6, .int .u8 14, .int .u8 5, .int .u8 4] 5)).cell? ⟨w8.heap.size, k, none⟩ = some (.int .u8 (lvO k : Int))) := Lib.hid fun k hk => by
    have h := HK.blk_cell (HK.blk_new w8 (.cells #[.int .u8 7, .int .u8 6, .int .u8 14, .int .u8 5, .int .u8 4] 5))
    rcases (by omega : k = 0 ∨ k = 1 ∨ k = 2 ∨ k = 3 ∨ k = 4) with rfl | rfl | rfl | rfl | rfl <;> exact h _
  obtain ⟨b9, hb9⟩ : ∃ b, b = w8.heap.size := ⟨_, rfl⟩
  rw [← hb9] at HO9 ⊢
  obtain ⟨w9, hw9⟩ : ∃ x, x = w8.alloc (.cells #[.int .u8 7, .int .u8 6, .int .u8 14, .int .u8 5, .int .u8 4] 5) := ⟨_, rfl⟩
  rw [← hw9] at HKa9 HKb9 HKc9 HB9 HO9 ⊢
  clear hw9
  clear hb9
  have HG9 : Hid (b9 < w9.heap.size) := Lib.hid (World.block_lt_of_cell? w9 ⟨b9, 0, none⟩ (HO9.out 0 (by omega)))
  have HNI := Lib.hid hni
  have HNJ := Lib.hid hnj
  have HII := Lib.hid hi
  have HJJ := Lib.hid hj
  go_cut [14, 15] from 14 to 67 (fun v u wx => v = .int .u8 (lvO i : Int) ∧ u = .int .u8 (lvO j : Int) ∧ Below w9.heap.size w9 wx)
  case first =>
    refine Go.RE.wp_region_eachg [58, 59, 60, 61, 62, 63, 64, 65, 66, 67, 14, 15] (fun L x W => (Below w9.heap.size w9 W) ∧ (L 0 = true → x 58 = .slice (some ⟨b9, 0, none⟩) 5 5) ∧ (L 1 = true → x 59 = .int .u8 (n1 : Int)) ∧ (L 2 = true → x 60 = .int .u8 (i : Int)) ∧ (L 3 = true → x 61 = .pointer (some ⟨b9, i, none⟩)) ∧ (L 4 = true → x 62 = .int .u8 (lvO i : Int)) ∧ (L 5 = true → x 63 = .slice (some ⟨b9, 0, none⟩) 5 5) ∧ (L 6 = true → x 64 = .int .u8 (n2 : Int)) ∧ (L 7 = true → x 65 = .int .u8 (j : Int)) ∧ (L 8 = true → x 66 = .pointer (some ⟨b9, j, none⟩)) ∧ (L 9 = true → x 67 = .int .u8 (lvO j : Int)) ∧ (L 10 = true → x 14 = .int .u8 (lvO i : Int)) ∧ (L 11 = true → x 15 = .int .u8 (lvO j : Int))) (by kernel_rfl) (by kernel_rfl) (by kernel_rfl) ?_ ((Go.RE.Each.cons ?_ (Go.RE.Each.cons ?_ (Go.RE.Each.cons ?_ (Go.RE.Each.cons ?_ (Go.RE.Each.cons ?_ (Go.RE.Each.cons ?_ (Go.RE.Each.cons ?_ (Go.RE.Each.cons ?_ (Go.RE.Each.cons ?_ (Go.RE.Each.cons ?_ (Go.RE.Each.cons ?_ (Go.RE.Each.cons ?_ Go.RE.Each.nil))))))))))))) ?_
    · exact fun x => ⟨bl_dr9 (Below.refl _ _), nofun, nofun, nofun, nofun, nofun, nofun, nofun, nofun, nofun, nofun, nofun, nofun⟩
    · intro L x a wR K hL hd hf hx hΦ hK
      obtain ⟨hI, f0, f1, f2, f3, f4, f5, f6, f7, f8, f9, f10, f11⟩ := hΦ
      refine ⟨fun _ => ?_, fun h => absurd h (by rw [Go.RE.wanted_none rfl]; decide)⟩
      have e13 : a.tmps[13]? = some (.slice (some ⟨b9, 0, none⟩) 5 5) := hf 13 (of_decide_eq_true (by kernel_rfl))
      clear hf hx hd
      go_simp
      refine hK _ _ ?_
      exact ⟨hI, fun _ => rfl, f1, f2, f3, f4, f5, f6, f7, f8, f9, f10, f11⟩
    · intro L x a wR K hL hd hf hx hΦ hK
      obtain ⟨hI, f0, f1, f2, f3, f4, f5, f6, f7, f8, f9, f10, f11⟩ := hΦ
      refine ⟨fun _ => ?_, fun h => absurd h (by rw [Go.RE.wanted_none rfl]; decide)⟩
      have e3 : a.tmps[3]? = some (.int .u8 (n1 : Int)) := hf 3 (of_decide_eq_true (by kernel_rfl))
      clear hf hx hd
      go_simp
      refine hK _ _ ?_
      exact ⟨hI, f0, fun _ => rfl, f2, f3, f4, f5, f6, f7, f8, f9, f10, f11⟩
    · intro L x a wR K hL hd hf hx hΦ hK
      obtain ⟨hI, f0, f1, f2, f3, f4, f5, f6, f7, f8, f9, f10, f11⟩ := hΦ
      refine ⟨fun _ => ?_, fun h => absurd h (by rw [Go.RE.wanted_none rfl]; decide)⟩
      have d1 := f1 (hd 1 (by kernel_rfl))
      have e59 : a.tmps[59]? = some (x 59) := hx 1 _ 59 rfl rfl (hd 1 (by kernel_rfl))
      rw [d1] at e59
      have q := HNI.out
      clear hf hx hd
      go_simp
      refine hK _ _ ?_
      exact ⟨hI, f0, f1, fun _ => rfl, f3, f4, f5, f6, f7, f8, f9, f10, f11⟩
    · intro L x a wR K hL hd hf hx hΦ hK
      obtain ⟨hI, f0, f1, f2, f3, f4, f5, f6, f7, f8, f9, f10, f11⟩ := hΦ
      refine ⟨fun _ => ?_, fun h => absurd h (by rw [Go.RE.wanted_none rfl]; decide)⟩
      have d0 := f0 (hd 0 (by kernel_rfl))
      have e58 : a.tmps[58]? = some (x 58) := hx 0 _ 58 rfl rfl (hd 0 (by kernel_rfl))
      rw [d0] at e58
      have d2 := f2 (hd 2 (by kernel_rfl))
      have e60 : a.tmps[60]? = some (x 60) := hx 2 _ 60 rfl rfl (hd 2 (by kernel_rfl))
      rw [d2] at e60
      have h9 := HII.out
      have h8 : (0 : Int) ≤ (i : Int) := by omega
      have h7 : (i : Int) < 5 := by omega
      clear hf hx hd
      go_simp
      refine hK _ _ ?_
      exact ⟨hI, f0, f1, f2, fun _ => rfl, f4, f5, f6, f7, f8, f9, f10, f11⟩
    · intro L x a wR K hL hd hf hx hΦ hK
      obtain ⟨hI, f0, f1, f2, f3, f4, f5, f6, f7, f8, f9, f10, f11⟩ := hΦ
      refine ⟨fun _ => ?_, fun h => absurd h (by rw [Go.RE.wanted_none rfl]; decide)⟩
      have d3 := f3 (hd 3 (by kernel_rfl))
      have e61 : a.tmps[61]? = some (x 61) := hx 3 _ 61 rfl rfl (hd 3 (by kernel_rfl))
      rw [d3] at e61
      have c := (hI.cell (p := ⟨b9, i, none⟩) HG9.out).trans (HO9.out i HII.out)
      clear hf hx hd
      go_simp
      refine hK _ _ ?_
      exact ⟨hI, f0, f1, f2, f3, fun _ => rfl, f5, f6, f7, f8, f9, f10, f11⟩
    · intro L x a wR K hL hd hf hx hΦ hK
      obtain ⟨hI, f0, f1, f2, f3, f4, f5, f6, f7, f8, f9, f10, f11⟩ := hΦ
      refine ⟨fun _ => ?_, fun h => absurd h (by rw [Go.RE.wanted_none rfl]; decide)⟩
      have e13 : a.tmps[13]? = some (.slice (some ⟨b9, 0, none⟩) 5 5) := hf 13 (of_decide_eq_true (by kernel_rfl))
      clear hf hx hd
      go_simp
      refine hK _ _ ?_
      exact ⟨hI, f0, f1, f2, f3, f4, fun _ => rfl, f6, f7, f8, f9, f10, f11⟩
    · intro L x a wR K hL hd hf hx hΦ hK
      obtain ⟨hI, f0, f1, f2, f3, f4, f5, f6, f7, f8, f9, f10, f11⟩ := hΦ
      refine ⟨fun _ => ?_, fun h => absurd h (by rw [Go.RE.wanted_none rfl]; decide)⟩
      have e4 : a.tmps[4]? = some (.int .u8 (n2 : Int)) := hf 4 (of_decide_eq_true (by kernel_rfl))
      clear hf hx hd
      go_simp
      refine hK _ _ ?_
      exact ⟨hI, f0, f1, f2, f3, f4, f5, fun _ => rfl, f7, f8, f9, f10, f11⟩
    · intro L x a wR K hL hd hf hx hΦ hK
      obtain ⟨hI, f0, f1, f2, f3, f4, f5, f6, f7, f8, f9, f10, f11⟩ := hΦ
      refine ⟨fun _ => ?_, fun h => absurd h (by rw [Go.RE.wanted_none rfl]; decide)⟩
      have d6 := f6 (hd 6 (by kernel_rfl))
      have e64 : a.tmps[64]? = some (x 64) := hx 6 _ 64 rfl rfl (hd 6 (by kernel_rfl))
      rw [d6] at e64
      have q := HNJ.out
      clear hf hx hd
      go_simp
      refine hK _ _ ?_
      exact ⟨hI, f0, f1, f2, f3, f4, f5, f6, fun _ => rfl, f8, f9, f10, f11⟩
    · intro L x a wR K hL hd hf hx hΦ hK
      obtain ⟨hI, f0, f1, f2, f3, f4, f5, f6, f7, f8, f9, f10, f11⟩ := hΦ
      refine ⟨fun _ => ?_, fun h => absurd h (by rw [Go.RE.wanted_none rfl]; decide)⟩
      have d5 := f5 (hd 5 (by kernel_rfl))
      have e63 : a.tmps[63]? = some (x 63) := hx 5 _ 63 rfl rfl (hd 5 (by kernel_rfl))
      rw [d5] at e63
      have d7 := f7 (hd 7 (by kernel_rfl))
      have e65 : a.tmps[65]? = some (x 65) := hx 7 _ 65 rfl rfl (hd 7 (by kernel_rfl))
      rw [d7] at e65
      have h9 := HJJ.out
      have h8 : (0 : Int) ≤ (j : Int) := by omega
      have h7 : (j : Int) < 5 := by omega
      clear hf hx hd
      go_simp
      refine hK _ _ ?_
      exact ⟨hI, f0, f1, f2, f3, f4, f5, f6, f7, fun _ => rfl, f9, f10, f11⟩
    · intro L x a wR K hL hd hf hx hΦ hK
      obtain ⟨hI, f0, f1, f2, f3, f4, f5, f6, f7, f8, f9, f10, f11⟩ := hΦ
      refine ⟨fun _ => ?_, fun h => absurd h (by rw [Go.RE.wanted_none rfl]; decide)⟩
      have d8 := f8 (hd 8 (by kernel_rfl))
      have e66 : a.tmps[66]? = some (x 66) := hx 8 _ 66 rfl rfl (hd 8 (by kernel_rfl))
      rw [d8] at e66
      have c := (hI.cell (p := ⟨b9, j, none⟩) HG9.out).trans (HO9.out j HJJ.out)
      clear hf hx hd
      go_simp
      refine hK _ _ ?_
      exact ⟨hI, f0, f1, f2, f3, f4, f5, f6, f7, f8, fun _ => rfl, f10, f11⟩
    · intro L x a wR K hL hd hf hx hΦ hK
      obtain ⟨hI, f0, f1, f2, f3, f4, f5, f6, f7, f8, f9, f10, f11⟩ := hΦ
      refine ⟨fun _ => ?_, fun h => absurd h (by rw [Go.RE.wanted_none rfl]; decide)⟩
      have d4 := f4 (hd 4 (by kernel_rfl))
      have e62 : a.tmps[62]? = some (x 62) := hx 4 _ 62 rfl rfl (hd 4 (by kernel_rfl))
      rw [d4] at e62
      clear hf hx hd
      go_simp
      refine hK _ _ ?_
      exact ⟨hI, f0, f1, f2, f3, f4, f5, f6, f7, f8, f9, fun _ => rfl, f11⟩
    · intro L x a wR K hL hd hf hx hΦ hK
      obtain ⟨hI, f0, f1, f2, f3, f4, f5, f6, f7, f8, f9, f10, f11⟩ := hΦ
      refine ⟨fun _ => ?_, fun h => absurd h (by rw [Go.RE.wanted_none rfl]; decide)⟩
      have d9 := f9 (hd 9 (by kernel_rfl))
      have e67 : a.tmps[67]? = some (x 67) := hx 9 _ 67 rfl rfl (hd 9 (by kernel_rfl))
      rw [d9] at e67
      clear hf hx hd
      go_simp
      refine hK _ _ ?_
      exact ⟨hI, f0, f1, f2, f3, f4, f5, f6, f7, f8, f9, f10, fun _ => rfl⟩
    · rintro x W ⟨hI, f0, f1, f2, f3, f4, f5, f6, f7, f8, f9, f10, f11⟩
      simp only [Exit.then]
      go_step
      go_meet
      exact ⟨f10 rfl, f11 rfl, hI⟩
  case rest =>
  obtain ⟨rfl, rfl, hB⟩ := hcut
  have HKa10 := Lib.hid (HKa9.out.up hB)
  have HKb10 := Lib.hid (HKb9.out.up hB)
  have HKc10 := Lib.hid (HKc9.out.up hB)
  have HB10 := Lib.hid (HB9.out.trans (hB.mono HB9.out.size))
  clear hB
  obtain ⟨w10, hw10⟩ : ∃ x : World, x = wc := ⟨_, rfl⟩
  subst hw10
  have hzc : (w10.alloc (.cells #[.int .u8 3, .int .u8 10, .int .u8 11, .int .u8 12, .int .u8 13] 5)).cell? ⟨w10.heap.size, l, none⟩ = some (.int .u8 (zO l : Int)) := by
    have h := HK.blk_cell (HK.blk_new w10 (.cells #[.int .u8 3, .int .u8 10, .int .u8 11, .int .u8 12, .int .u8 13] 5))
    rcases (by omega : l = 0 ∨ l = 1 ∨ l = 2 ∨ l = 3 ∨ l = 4) with rfl | rfl | rfl | rfl | rfl <;> exact h _
  have hl0 : (0 : Int) ≤ (l : Int) := by omega
  have hl5 : (l : Int) < 5 := by omega
  have HKa11 := Lib.hid (HKa10.out.up (bl_al9 (.cells #[.int .u8 3, .int .u8 10, .int .u8 11, .int .u8 12, .int .u8 13] 5)))
  have HKb11 := Lib.hid (HKb10.out.up (bl_al9 (.cells #[.int .u8 3, .int .u8 10, .int .u8 11, .int .u8 12, .int .u8 13] 5)))
  have HKc11 := Lib.hid (HKc10.out.up (bl_al9 (.cells #[.int .u8 3, .int .u8 10, .int .u8 11, .int .u8 12, .int .u8 13] 5)))
  have HB11 := Lib.hid (HB10.out.trans ((bl_al9 (W := w10) (.cells #[.int .u8 3, .int .u8 10, .int .u8 11, .int .u8 12, .int .u8 13] 5)).mono HB10.out.size))
  go_upto_region 8 with (fail)
  clear hl0 hl5 hzc
  obtain ⟨w11, hw11⟩ : ∃ x, x = w10.alloc (.cells #[.int .u8 3, .int .u8 10, .int .u8 11, .int .u8 12, .int .u8 13] 5) := ⟨_, rfl⟩
  rw [← hw11] at HKa11 HKb11 HKc11 HB11 ⊢
  clear hw11
  go_cut [17] from 17 to 95 (fun v wx => v = .string (((((((((((sz ++ ⟨#[32, 40]⟩) ++ ea) ++ ⟨#[41, 32]⟩) ++ sx) ++ ⟨#[32, 40]⟩) ++ eb) ++ ⟨#[41, 32]⟩) ++ sy) ++ ⟨#[32, 40]⟩) ++ ec) ++ ⟨#[41]⟩) ∧ Below w11.heap.size w11 wx)
  case first =>
    refine Go.RE.wp_region_eachg [73, 74, 75, 76, 77, 78, 79, 80, 81, 82, 83, 84, 85, 86, 87, 88, 89, 90, 91, 92, 93, 94, 95, 17] (fun L x W => (Below w11.heap.size w11 W) ∧ (L 0 = true → x 73 = .int .u8 (zO l : Int)) ∧ (L 1 = true → x 74 = .string sz) ∧ (L 2 = true → x 75 = .string (sz ++ ⟨#[32, 40]⟩)) ∧ (L 3 = true → x 76 = .agg #[.int .u8 (oa : Int), .string na, .slice aa pa qa, .slice sa ta ua]) ∧ (L 4 = true → x 77 = .string ea) ∧ (L 5 = true → x 78 = .string ((sz ++ ⟨#[32, 40]⟩) ++ ea)) ∧ (L 6 = true → x 79 = .string (((sz ++ ⟨#[32, 40]⟩) ++ ea) ++ ⟨#[41, 32]⟩)) ∧ (L 7 = true → x 80 = .int .u8 (lvO i : Int)) ∧ (L 8 = true → x 81 = .string sx) ∧ (L 9 = true → x 82 = .string ((((sz ++ ⟨#[32, 40]⟩) ++ ea) ++ ⟨#[41, 32]⟩) ++ sx)) ∧ (L 10 = true → x 83 = .string (((((sz ++ ⟨#[32, 40]⟩) ++ ea) ++ ⟨#[41, 32]⟩) ++ sx) ++ ⟨#[32, 40]⟩)) ∧ (L 11 = true → x 84 = .agg #[.int .u8 (ob : Int), .string nb, .slice ab pb qb, .slice sb tb ub]) ∧ (L 12 = true → x 85 = .string eb) ∧ (L 13 = true → x 86 = .string ((((((sz ++ ⟨#[32, 40]⟩) ++ ea) ++ ⟨#[41, 32]⟩) ++ sx) ++ ⟨#[32, 40]⟩) ++ eb)) ∧ (L 14 = true → x 87 = .string (((((((sz ++ ⟨#[32, 40]⟩) ++ ea) ++ ⟨#[41, 32]⟩) ++ sx) ++ ⟨#[32, 40]⟩) ++ eb) ++ ⟨#[41, 32]⟩)) ∧ (L 15 = true → x 88 = .int .u8 (lvO j : Int)) ∧ (L 16 = true → x 89 = .string sy) ∧ (L 17 = true → x 90 = .string ((((((((sz ++ ⟨#[32, 40]⟩) ++ ea) ++ ⟨#[41, 32]⟩) ++ sx) ++ ⟨#[32, 40]⟩) ++ eb) ++ ⟨#[41, 32]⟩) ++ sy)) ∧ (L 18 = true → x 91 = .string (((((((((sz ++ ⟨#[32, 40]⟩) ++ ea) ++ ⟨#[41, 32]⟩) ++ sx) ++ ⟨#[32, 40]⟩) ++ eb) ++ ⟨#[41, 32]⟩) ++ sy) ++ ⟨#[32, 40]⟩)) ∧ (L 19 = true → x 92 = .agg #[.int .u8 (oc : Int), .string nc, .slice ac pc qc, .slice sc tc uc]) ∧ (L 20 = true → x 93 = .string ec) ∧ (L 21 = true → x 94 = .string ((((((((((sz ++ ⟨#[32, 40]⟩) ++ ea) ++ ⟨#[41, 32]⟩) ++ sx) ++ ⟨#[32, 40]⟩) ++ eb) ++ ⟨#[41, 32]⟩) ++ sy) ++ ⟨#[32, 40]⟩) ++ ec)) ∧ (L 22 = true → x 95 = .string (((((((((((sz ++ ⟨#[32, 40]⟩) ++ ea) ++ ⟨#[41, 32]⟩) ++ sx) ++ ⟨#[32, 40]⟩) ++ eb) ++ ⟨#[41, 32]⟩) ++ sy) ++ ⟨#[32, 40]⟩) ++ ec) ++ ⟨#[41]⟩)) ∧ (L 23 = true → x 17 = .string (((((((((((sz ++ ⟨#[32, 40]⟩) ++ ea) ++ ⟨#[41, 32]⟩) ++ sx) ++ ⟨#[32, 40]⟩) ++ eb) ++ ⟨#[41, 32]⟩) ++ sy) ++ ⟨#[32, 40]⟩) ++ ec) ++ ⟨#[41]⟩))) (by kernel_rfl) (by kernel_rfl) (by kernel_rfl) ?_ ((Go.RE.Each.cons ?_ (Go.RE.Each.cons ?_ (Go.RE.Each.cons ?_ (Go.RE.Each.cons ?_ (Go.RE.Each.cons ?_ (Go.RE.Each.cons ?_ (Go.RE.Each.cons ?_ (Go.RE.Each.cons ?_ (Go.RE.Each.cons ?_ (Go.RE.Each.cons ?_ (Go.RE.Each.cons ?_ (Go.RE.Each.cons ?_ (Go.RE.Each.cons ?_ (Go.RE.Each.cons ?_ (Go.RE.Each.cons ?_ (Go.RE.Each.cons ?_ (Go.RE.Each.cons ?_ (Go.RE.Each.cons ?_ (Go.RE.Each.cons ?_ (Go.RE.Each.cons ?_ (Go.RE.Each.cons ?_ (Go.RE.Each.cons ?_ (Go.RE.Each.cons ?_ (Go.RE.Each.cons ?_ Go.RE.Each.nil))))))))))))))))))))))))) ?_
    · exact fun x => ⟨bl_dr9 (Below.refl _ _), nofun, nofun, nofun, nofun, nofun, nofun, nofun, nofun, nofun, nofun, nofun, nofun, nofun, nofun, nofun, nofun, nofun, nofun, nofun, nofun, nofun, nofun, nofun, nofun⟩
    · intro L x a wR K hL hd hf hx hΦ hK
      obtain ⟨hI, f0, f1, f2, f3, f4, f5, f6, f7, f8, f9, f10, f11, f12, f13, f14, f15, f16, f17, f18, f19, f20, f21, f22, f23⟩ := hΦ
      refine ⟨fun _ => ?_, fun h => absurd h (by rw [Go.RE.wanted_none rfl]; decide)⟩
      have e16 : a.tmps[16]? = some (.int .u8 (zO l : Int)) := hf 16 (of_decide_eq_true (by kernel_rfl))
      clear hf hx hd
      go_simp
      refine hK _ _ ?_
      exact ⟨hI, fun _ => rfl, f1, f2, f3, f4, f5, f6, f7, f8, f9, f10, f11, f12, f13, f14, f15, f16, f17, f18, f19, f20, f21, f22, f23⟩
    · intro L x a wR K hL hd hf hx hΦ hK
      obtain ⟨hI, f0, f1, f2, f3, f4, f5, f6, f7, f8, f9, f10, f11, f12, f13, f14, f15, f16, f17, f18, f19, f20, f21, f22, f23⟩ := hΦ
      refine ⟨fun _ => ?_, fun h => absurd h (by rw [Go.RE.wanted_none rfl]; decide)⟩
      have d0 := f0 (hd 0 (by kernel_rfl))
      have e73 : a.tmps[73]? = some (x 73) := hx 0 _ 73 rfl rfl (hd 0 (by kernel_rfl))
      rw [d0] at e73
      clear hf hx hd
      go_simp
      go_at_call 18
      with_reducible refine (HCZ.out _).mono ?_
      rintro e w' ⟨rfl, hB8⟩
      simp only
      refine hK _ _ ?_
      exact ⟨hI.trans (hB8.mono hI.size), f0, fun _ => rfl, f2, f3, f4, f5, f6, f7, f8, f9, f10, f11, f12, f13, f14, f15, f16, f17, f18, f19, f20, f21, f22, f23⟩
    · intro L x a wR K hL hd hf hx hΦ hK
      obtain ⟨hI, f0, f1, f2, f3, f4, f5, f6, f7, f8, f9, f10, f11, f12, f13, f14, f15, f16, f17, f18, f19, f20, f21, f22, f23⟩ := hΦ
      refine ⟨fun _ => ?_, fun h => absurd h (by rw [Go.RE.wanted_none rfl]; decide)⟩
      have d1 := f1 (hd 1 (by kernel_rfl))
      have e74 : a.tmps[74]? = some (x 74) := hx 1 _ 74 rfl rfl (hd 1 (by kernel_rfl))
      rw [d1] at e74
      clear hf hx hd
      go_simp
      rw [if_neg (by have := HSZ.out; omega)]
      go_simp
      refine hK _ _ ?_
      exact ⟨hI, f0, f1, fun _ => rfl, f3, f4, f5, f6, f7, f8, f9, f10, f11, f12, f13, f14, f15, f16, f17, f18, f19, f20, f21, f22, f23⟩
    · intro L x a wR K hL hd hf hx hΦ hK
      obtain ⟨hI, f0, f1, f2, f3, f4, f5, f6, f7, f8, f9, f10, f11, f12, f13, f14, f15, f16, f17, f18, f19, f20, f21, f22, f23⟩ := hΦ
      refine ⟨fun _ => ?_, fun h => absurd h (by rw [Go.RE.wanted_none rfl]; decide)⟩
      have e6 : a.tmps[6]? = some (.pointer (some ⟨w.heap.size, 0, none⟩)) := hf 6 (of_decide_eq_true (by kernel_rfl))
      have kb := HKa11.out.up hI
      have c0 := HK.blk_cell kb 0
      have c1 := HK.blk_cell kb 1
      have c2 := HK.blk_cell kb 2
      have c3 := HK.blk_cell kb 3
      clear hf hx hd
      go_simp
      refine hK _ _ ?_
      exact ⟨hI, f0, f1, f2, fun _ => rfl, f4, f5, f6, f7, f8, f9, f10, f11, f12, f13, f14, f15, f16, f17, f18, f19, f20, f21, f22, f23⟩
    · intro L x a wR K hL hd hf hx hΦ hK
      obtain ⟨hI, f0, f1, f2, f3, f4, f5, f6, f7, f8, f9, f10, f11, f12, f13, f14, f15, f16, f17, f18, f19, f20, f21, f22, f23⟩ := hΦ
      refine ⟨fun _ => ?_, fun h => absurd h (by rw [Go.RE.wanted_none rfl]; decide)⟩
      have d3 := f3 (hd 3 (by kernel_rfl))
      have e76 : a.tmps[76]? = some (x 76) := hx 3 _ 76 rfl rfl (hd 3 (by kernel_rfl))
      rw [d3] at e76
      clear hf hx hd
      go_simp
      go_at_call 12
      with_reducible refine (HFa.out _ (HB11.out.trans (hI.mono HB11.out.size))).mono ?_
      rintro e w' ⟨rfl, hB8⟩
      simp only
      refine hK _ _ ?_
      exact ⟨hI.trans (hB8.mono hI.size), f0, f1, f2, f3, fun _ => rfl, f5, f6, f7, f8, f9, f10, f11, f12, f13, f14, f15, f16, f17, f18, f19, f20, f21, f22, f23⟩
    · intro L x a wR K hL hd hf hx hΦ hK
      obtain ⟨hI, f0, f1, f2, f3, f4, f5, f6, f7, f8, f9, f10, f11, f12, f13, f14, f15, f16, f17, f18, f19, f20, f21, f22, f23⟩ := hΦ
      refine ⟨fun _ => ?_, fun h => absurd h (by rw [Go.RE.wanted_none rfl]; decide)⟩
      have d2 := f2 (hd 2 (by kernel_rfl))
      have e75 : a.tmps[75]? = some (x 75) := hx 2 _ 75 rfl rfl (hd 2 (by kernel_rfl))
      rw [d2] at e75
      have d4 := f4 (hd 4 (by kernel_rfl))
      have e77 : a.tmps[77]? = some (x 77) := hx 4 _ 77 rfl rfl (hd 4 (by kernel_rfl))
      rw [d4] at e77
      clear hf hx hd
      go_simp
      rw [if_neg (by have := HSZ.out; omega)]
      go_simp
      refine hK _ _ ?_
      exact ⟨hI, f0, f1, f2, f3, f4, fun _ => rfl, f6, f7, f8, f9, f10, f11, f12, f13, f14, f15, f16, f17, f18, f19, f20, f21, f22, f23⟩
    · intro L x a wR K hL hd hf hx hΦ hK
      obtain ⟨hI, f0, f1, f2, f3, f4, f5, f6, f7, f8, f9, f10, f11, f12, f13, f14, f15, f16, f17, f18, f19, f20, f21, f22, f23⟩ := hΦ
      refine ⟨fun _ => ?_, fun h => absurd h (by rw [Go.RE.wanted_none rfl]; decide)⟩
      have d5 := f5 (hd 5 (by kernel_rfl))
      have e78 : a.tmps[78]? = some (x 78) := hx 5 _ 78 rfl rfl (hd 5 (by kernel_rfl))
      rw [d5] at e78
      clear hf hx hd
      go_simp
      rw [if_neg (by have := HSZ.out; omega)]
      go_simp
      refine hK _ _ ?_
      exact ⟨hI, f0, f1, f2, f3, f4, f5, fun _ => rfl, f7, f8, f9, f10, f11, f12, f13, f14, f15, f16, f17, f18, f19, f20, f21, f22, f23⟩
    · intro L x a wR K hL hd hf hx hΦ hK
      obtain ⟨hI, f0, f1, f2, f3, f4, f5, f6, f7, f8, f9, f10, f11, f12, f13, f14, f15, f16, f17, f18, f19, f20, f21, f22, f23⟩ := hΦ
      refine ⟨fun _ => ?_, fun h => absurd h (by rw [Go.RE.wanted_none rfl]; decide)⟩
      have e14 : a.tmps[14]? = some (.int .u8 (lvO i : Int)) := hf 14 (of_decide_eq_true (by kernel_rfl))
      clear hf hx hd
      go_simp
      refine hK _ _ ?_
      exact ⟨hI, f0, f1, f2, f3, f4, f5, f6, fun _ => rfl, f8, f9, f10, f11, f12, f13, f14, f15, f16, f17, f18, f19, f20, f21, f22, f23⟩
    · intro L x a wR K hL hd hf hx hΦ hK
      obtain ⟨hI, f0, f1, f2, f3, f4, f5, f6, f7, f8, f9, f10, f11, f12, f13, f14, f15, f16, f17, f18, f19, f20, f21, f22, f23⟩ := hΦ
      refine ⟨fun _ => ?_, fun h => absurd h (by rw [Go.RE.wanted_none rfl]; decide)⟩
      have d7 := f7 (hd 7 (by kernel_rfl))
      have e80 : a.tmps[80]? = some (x 80) := hx 7 _ 80 rfl rfl (hd 7 (by kernel_rfl))
      rw [d7] at e80
      clear hf hx hd
      go_simp
      go_at_call 18
      with_reducible refine (HCX.out _).mono ?_
      rintro e w' ⟨rfl, hB8⟩
      simp only
      refine hK _ _ ?_
      exact ⟨hI.trans (hB8.mono hI.size), f0, f1, f2, f3, f4, f5, f6, f7, fun _ => rfl, f9, f10, f11, f12, f13, f14, f15, f16, f17, f18, f19, f20, f21, f22, f23⟩
    · intro L x a wR K hL hd hf hx hΦ hK
      obtain ⟨hI, f0, f1, f2, f3, f4, f5, f6, f7, f8, f9, f10, f11, f12, f13, f14, f15, f16, f17, f18, f19, f20, f21, f22, f23⟩ := hΦ
      refine ⟨fun _ => ?_, fun h => absurd h (by rw [Go.RE.wanted_none rfl]; decide)⟩
      have d6 := f6 (hd 6 (by kernel_rfl))
      have e79 : a.tmps[79]? = some (x 79) := hx 6 _ 79 rfl rfl (hd 6 (by kernel_rfl))
      rw [d6] at e79
      have d8 := f8 (hd 8 (by kernel_rfl))
      have e81 : a.tmps[81]? = some (x 81) := hx 8 _ 81 rfl rfl (hd 8 (by kernel_rfl))
      rw [d8] at e81
      clear hf hx hd
      go_simp
      rw [if_neg (by have := HSZ.out; omega)]
      go_simp
      refine hK _ _ ?_
      exact ⟨hI, f0, f1, f2, f3, f4, f5, f6, f7, f8, fun _ => rfl, f10, f11, f12, f13, f14, f15, f16, f17, f18, f19, f20, f21, f22, f23⟩
    · intro L x a wR K hL hd hf hx hΦ hK
      obtain ⟨hI, f0, f1, f2, f3, f4, f5, f6, f7, f8, f9, f10, f11, f12, f13, f14, f15, f16, f17, f18, f19, f20, f21, f22, f23⟩ := hΦ
      refine ⟨fun _ => ?_, fun h => absurd h (by rw [Go.RE.wanted_none rfl]; decide)⟩
      have d9 := f9 (hd 9 (by kernel_rfl))
      have e82 : a.tmps[82]? = some (x 82) := hx 9 _ 82 rfl rfl (hd 9 (by kernel_rfl))
      rw [d9] at e82
      clear hf hx hd
      go_simp
      rw [if_neg (by have := HSZ.out; omega)]
      go_simp
      refine hK _ _ ?_
      exact ⟨hI, f0, f1, f2, f3, f4, f5, f6, f7, f8, f9, fun _ => rfl, f11, f12, f13, f14, f15, f16, f17, f18, f19, f20, f21, f22, f23⟩
    · intro L x a wR K hL hd hf hx hΦ hK
      obtain ⟨hI, f0, f1, f2, f3, f4, f5, f6, f7, f8, f9, f10, f11, f12, f13, f14, f15, f16, f17, f18, f19, f20, f21, f22, f23⟩ := hΦ
      refine ⟨fun _ => ?_, fun h => absurd h (by rw [Go.RE.wanted_none rfl]; decide)⟩
      have e7 : a.tmps[7]? = some (.pointer (some ⟨w.heap.size + 1, 0, none⟩)) := hf 7 (of_decide_eq_true (by kernel_rfl))
      have kb := HKb11.out.up hI
      have c0 := HK.blk_cell kb 0
      have c1 := HK.blk_cell kb 1
      have c2 := HK.blk_cell kb 2
      have c3 := HK.blk_cell kb 3
      clear hf hx hd
      go_simp
      refine hK _ _ ?_
      exact ⟨hI, f0, f1, f2, f3, f4, f5, f6, f7, f8, f9, f10, fun _ => rfl, f12, f13, f14, f15, f16, f17, f18, f19, f20, f21, f22, f23⟩
    · intro L x a wR K hL hd hf hx hΦ hK
      obtain ⟨hI, f0, f1, f2, f3, f4, f5, f6, f7, f8, f9, f10, f11, f12, f13, f14, f15, f16, f17, f18, f19, f20, f21, f22, f23⟩ := hΦ
      refine ⟨fun _ => ?_, fun h => absurd h (by rw [Go.RE.wanted_none rfl]; decide)⟩
      have d11 := f11 (hd 11 (by kernel_rfl))
      have e84 : a.tmps[84]? = some (x 84) := hx 11 _ 84 rfl rfl (hd 11 (by kernel_rfl))
      rw [d11] at e84
      clear hf hx hd
      go_simp
      go_at_call 12
      with_reducible refine (HFb.out _ (HB11.out.trans (hI.mono HB11.out.size))).mono ?_
      rintro e w' ⟨rfl, hB8⟩
      simp only
      refine hK _ _ ?_
      exact ⟨hI.trans (hB8.mono hI.size), f0, f1, f2, f3, f4, f5, f6, f7, f8, f9, f10, f11, fun _ => rfl, f13, f14, f15, f16, f17, f18, f19, f20, f21, f22, f23⟩
    · intro L x a wR K hL hd hf hx hΦ hK
      obtain ⟨hI, f0, f1, f2, f3, f4, f5, f6, f7, f8, f9, f10, f11, f12, f13, f14, f15, f16, f17, f18, f19, f20, f21, f22, f23⟩ := hΦ
      refine ⟨fun _ => ?_, fun h => absurd h (by rw [Go.RE.wanted_none rfl]; decide)⟩
      have d10 := f10 (hd 10 (by kernel_rfl))
      have e83 : a.tmps[83]? = some (x 83) := hx 10 _ 83 rfl rfl (hd 10 (by kernel_rfl))
      rw [d10] at e83
      have d12 := f12 (hd 12 (by kernel_rfl))
      have e85 : a.tmps[85]? = some (x 85) := hx 12 _ 85 rfl rfl (hd 12 (by kernel_rfl))
      rw [d12] at e85
      clear hf hx hd
      go_simp
      rw [if_neg (by have := HSZ.out; omega)]
      go_simp
      refine hK _ _ ?_
      exact ⟨hI, f0, f1, f2, f3, f4, f5, f6, f7, f8, f9, f10, f11, f12, fun _ => rfl, f14, f15, f16, f17, f18, f19, f20, f21, f22, f23⟩
    · intro L x a wR K hL hd hf hx hΦ hK
      obtain ⟨hI, f0, f1, f2, f3, f4, f5, f6, f7, f8, f9, f10, f11, f12, f13, f14, f15, f16, f17, f18, f19, f20, f21, f22, f23⟩ := hΦ
      refine ⟨fun _ => ?_, fun h => absurd h (by rw [Go.RE.wanted_none rfl]; decide)⟩
      have d13 := f13 (hd 13 (by kernel_rfl))
      have e86 : a.tmps[86]? = some (x 86) := hx 13 _ 86 rfl rfl (hd 13 (by kernel_rfl))
      rw [d13] at e86
      clear hf hx hd
      go_simp
      rw [if_neg (by have := HSZ.out; omega)]
      go_simp
      refine hK _ _ ?_
      exact ⟨hI, f0, f1, f2, f3, f4, f5, f6, f7, f8, f9, f10, f11, f12, f13, fun _ => rfl, f15, f16, f17, f18, f19, f20, f21, f22, f23⟩
    · intro L x a wR K hL hd hf hx hΦ hK
      obtain ⟨hI, f0, f1, f2, f3, f4, f5, f6, f7, f8, f9, f10, f11, f12, f13, f14, f15, f16, f17, f18, f19, f20, f21, f22, f23⟩ := hΦ
      refine ⟨fun _ => ?_, fun h => absurd h (by rw [Go.RE.wanted_none rfl]; decide)⟩
      have e15 : a.tmps[15]? = some (.int .u8 (lvO j : Int)) := hf 15 (of_decide_eq_true (by kernel_rfl))
      clear hf hx hd
      go_simp
      refine hK _ _ ?_
      exact ⟨hI, f0, f1, f2, f3, f4, f5, f6, f7, f8, f9, f10, f11, f12, f13, f14, fun _ => rfl, f16, f17, f18, f19, f20, f21, f22, f23⟩
    · intro L x a wR K hL hd hf hx hΦ hK
      obtain ⟨hI, f0, f1, f2, f3, f4, f5, f6, f7, f8, f9, f10, f11, f12, f13, f14, f15, f16, f17, f18, f19, f20, f21, f22, f23⟩ := hΦ
      refine ⟨fun _ => ?_, fun h => absurd h (by rw [Go.RE.wanted_none rfl]; decide)⟩
      have d15 := f15 (hd 15 (by kernel_rfl))
      have e88 : a.tmps[88]? = some (x 88) := hx 15 _ 88 rfl rfl (hd 15 (by kernel_rfl))
      rw [d15] at e88
      clear hf hx hd
      go_simp
      go_at_call 18
      with_reducible refine (HCY.out _).mono ?_
      rintro e w' ⟨rfl, hB8⟩
      simp only
      refine hK _ _ ?_
      exact ⟨hI.trans (hB8.mono hI.size), f0, f1, f2, f3, f4, f5, f6, f7, f8, f9, f10, f11, f12, f13, f14, f15, fun _ => rfl, f17, f18, f19, f20, f21, f22, f23⟩
    · intro L x a wR K hL hd hf hx hΦ hK
      obtain ⟨hI, f0, f1, f2, f3, f4, f5, f6, f7, f8, f9, f10, f11, f12, f13, f14, f15, f16, f17, f18, f19, f20, f21, f22, f23⟩ := hΦ
      refine ⟨fun _ => ?_, fun h => absurd h (by rw [Go.RE.wanted_none rfl]; decide)⟩
      have d14 := f14 (hd 14 (by kernel_rfl))
      have e87 : a.tmps[87]? = some (x 87) := hx 14 _ 87 rfl rfl (hd 14 (by kernel_rfl))
      rw [d14] at e87
      have d16 := f16 (hd 16 (by kernel_rfl))
      have e89 : a.tmps[89]? = some (x 89) := hx 16 _ 89 rfl rfl (hd 16 (by kernel_rfl))
      rw [d16] at e89
      clear hf hx hd
      go_simp
      rw [if_neg (by have := HSZ.out; omega)]
      go_simp
      refine hK _ _ ?_
      exact ⟨hI, f0, f1, f2, f3, f4, f5, f6, f7, f8, f9, f10, f11, f12, f13, f14, f15, f16, fun _ => rfl, f18, f19, f20, f21, f22, f23⟩
    · intro L x a wR K hL hd hf hx hΦ hK
      obtain ⟨hI, f0, f1, f2, f3, f4, f5, f6, f7, f8, f9, f10, f11, f12, f13, f14, f15, f16, f17, f18, f19, f20, f21, f22, f23⟩ := hΦ
      refine ⟨fun _ => ?_, fun h => absurd h (by rw [Go.RE.wanted_none rfl]; decide)⟩
      have d17 := f17 (hd 17 (by kernel_rfl))
      have e90 : a.tmps[90]? = some (x 90) := hx 17 _ 90 rfl rfl (hd 17 (by kernel_rfl))
      rw [d17] at e90
      clear hf hx hd
      go_simp
      rw [if_neg (by have := HSZ.out; omega)]
      go_simp
      refine hK _ _ ?_
      exact ⟨hI, f0, f1, f2, f3, f4, f5, f6, f7, f8, f9, f10, f11, f12, f13, f14, f15, f16, f17, fun _ => rfl, f19, f20, f21, f22, f23⟩
    · intro L x a wR K hL hd hf hx hΦ hK
      obtain ⟨hI, f0, f1, f2, f3, f4, f5, f6, f7, f8, f9, f10, f11, f12, f13, f14, f15, f16, f17, f18, f19, f20, f21, f22, f23⟩ := hΦ
      refine ⟨fun _ => ?_, fun h => absurd h (by rw [Go.RE.wanted_none rfl]; decide)⟩
      have e8 : a.tmps[8]? = some (.pointer (some ⟨w.heap.size + 1 + 1, 0, none⟩)) := hf 8 (of_decide_eq_true (by kernel_rfl))
      have kb := HKc11.out.up hI
      have c0 := HK.blk_cell kb 0
      have c1 := HK.blk_cell kb 1
      have c2 := HK.blk_cell kb 2
      have c3 := HK.blk_cell kb 3
      clear hf hx hd
      go_simp
      refine hK _ _ ?_
      exact ⟨hI, f0, f1, f2, f3, f4, f5, f6, f7, f8, f9, f10, f11, f12, f13, f14, f15, f16, f17, f18, fun _ => rfl, f20, f21, f22, f23⟩
    · intro L x a wR K hL hd hf hx hΦ hK
      obtain ⟨hI, f0, f1, f2, f3, f4, f5, f6, f7, f8, f9, f10, f11, f12, f13, f14, f15, f16, f17, f18, f19, f20, f21, f22, f23⟩ := hΦ
      refine ⟨fun _ => ?_, fun h => absurd h (by rw [Go.RE.wanted_none rfl]; decide)⟩
      have d19 := f19 (hd 19 (by kernel_rfl))
      have e92 : a.tmps[92]? = some (x 92) := hx 19 _ 92 rfl rfl (hd 19 (by kernel_rfl))
      rw [d19] at e92
      clear hf hx hd
      go_simp
      go_at_call 12
      with_reducible refine (HFc.out _ (HB11.out.trans (hI.mono HB11.out.size))).mono ?_
      rintro e w' ⟨rfl, hB8⟩
      simp only
      refine hK _ _ ?_
      exact ⟨hI.trans (hB8.mono hI.size), f0, f1, f2, f3, f4, f5, f6, f7, f8, f9, f10, f11, f12, f13, f14, f15, f16, f17, f18, f19, fun _ => rfl, f21, f22, f23⟩
    · intro L x a wR K hL hd hf hx hΦ hK
      obtain ⟨hI, f0, f1, f2, f3, f4, f5, f6, f7, f8, f9, f10, f11, f12, f13, f14, f15, f16, f17, f18, f19, f20, f21, f22, f23⟩ := hΦ
      refine ⟨fun _ => ?_, fun h => absurd h (by rw [Go.RE.wanted_none rfl]; decide)⟩
      have d18 := f18 (hd 18 (by kernel_rfl))
      have e91 : a.tmps[91]? = some (x 91) := hx 18 _ 91 rfl rfl (hd 18 (by kernel_rfl))
      rw [d18] at e91
      have d20 := f20 (hd 20 (by kernel_rfl))
      have e93 : a.tmps[93]? = some (x 93) := hx 20 _ 93 rfl rfl (hd 20 (by kernel_rfl))
      rw [d20] at e93
      clear hf hx hd
      go_simp
      rw [if_neg (by have := HSZ.out; omega)]
      go_simp
      refine hK _ _ ?_
      exact ⟨hI, f0, f1, f2, f3, f4, f5, f6, f7, f8, f9, f10, f11, f12, f13, f14, f15, f16, f17, f18, f19, f20, fun _ => rfl, f22, f23⟩
    · intro L x a wR K hL hd hf hx hΦ hK
      obtain ⟨hI, f0, f1, f2, f3, f4, f5, f6, f7, f8, f9, f10, f11, f12, f13, f14, f15, f16, f17, f18, f19, f20, f21, f22, f23⟩ := hΦ
      refine ⟨fun _ => ?_, fun h => absurd h (by rw [Go.RE.wanted_none rfl]; decide)⟩
      have d21 := f21 (hd 21 (by kernel_rfl))
      have e94 : a.tmps[94]? = some (x 94) := hx 21 _ 94 rfl rfl (hd 21 (by kernel_rfl))
      rw [d21] at e94
      clear hf hx hd
      go_simp
      rw [if_neg (by have := HSZ.out; omega)]
      go_simp
      refine hK _ _ ?_
      exact ⟨hI, f0, f1, f2, f3, f4, f5, f6, f7, f8, f9, f10, f11, f12, f13, f14, f15, f16, f17, f18, f19, f20, f21, fun _ => rfl, f23⟩
    · intro L x a wR K hL hd hf hx hΦ hK
      obtain ⟨hI, f0, f1, f2, f3, f4, f5, f6, f7, f8, f9, f10, f11, f12, f13, f14, f15, f16, f17, f18, f19, f20, f21, f22, f23⟩ := hΦ
      refine ⟨fun _ => ?_, fun h => absurd h (by rw [Go.RE.wanted_none rfl]; decide)⟩
      have d22 := f22 (hd 22 (by kernel_rfl))
      have e95 : a.tmps[95]? = some (x 95) := hx 22 _ 95 rfl rfl (hd 22 (by kernel_rfl))
      rw [d22] at e95
      clear hf hx hd
      go_simp
      refine hK _ _ ?_
      exact ⟨hI, f0, f1, f2, f3, f4, f5, f6, f7, f8, f9, f10, f11, f12, f13, f14, f15, f16, f17, f18, f19, f20, f21, f22, fun _ => rfl⟩
    · rintro x W ⟨hI, f0, f1, f2, f3, f4, f5, f6, f7, f8, f9, f10, f11, f12, f13, f14, f15, f16, f17, f18, f19, f20, f21, f22, f23⟩
      simp only [Exit.then]
      go_step
      go_meet
      exact ⟨f23 rfl, hI⟩
  case rest =>
  obtain ⟨rfl, hB⟩ := hcut
  have HKa12 := Lib.hid (HKa11.out.up hB)
  have HKb12 := Lib.hid (HKb11.out.up hB)
  have HKc12 := Lib.hid (HKc11.out.up hB)
  have HB12 := Lib.hid (HB11.out.trans (hB.mono HB11.out.size))
  clear hB
  obtain ⟨w12, hw12⟩ : ∃ x : World, x = wc := ⟨_, rfl⟩
  subst hw12
  obtain ⟨st, hst⟩ : ∃ s, s = (((((((((((sz ++ ⟨#[32, 40]⟩) ++ ea) ++ ⟨#[41, 32]⟩) ++ sx) ++ ⟨#[32, 40]⟩) ++ eb) ++ ⟨#[41, 32]⟩) ++ sy) ++ ⟨#[32, 40]⟩) ++ ec) ++ ⟨#[41]⟩) := ⟨_, rfl⟩
  rw [← hst] at HRD ⊢
  have HST : Hid (st.size ≤ 9700) := Lib.hid (by
    have := HSZ.out
    rw [hst]
    simp only [sz_app, show (⟨#[32, 40]⟩ : ByteArray).size = 2 from rfl, show (⟨#[41, 32]⟩ : ByteArray).size = 2 from rfl, show (⟨#[41]⟩ : ByteArray).size = 1 from rfl]
    omega)
  clear hst
  go_wp2_with (fail)
  go_at_call 19
  with_reducible refine (HRX.out _).mono ?_
  rintro _ w13 ⟨rfl, hB⟩
  have HKa13 := Lib.hid (HKa12.out.up hB)
  have HKb13 := Lib.hid (HKb12.out.up hB)
  have HKc13 := Lib.hid (HKc12.out.up hB)
  have HB13 := Lib.hid (HB12.out.trans (hB.mono HB12.out.size))
  clear hB
  go_wp2_with (fail)
  go_at_call 19
  with_reducible refine (HRY.out _).mono ?_
  rintro _ w14 ⟨rfl, hB⟩
  have HKa14 := Lib.hid (HKa13.out.up hB)
  have HKb14 := Lib.hid (HKb13.out.up hB)
  have HKc14 := Lib.hid (HKc13.out.up hB)
  have HB14 := Lib.hid (HB13.out.trans (hB.mono HB13.out.size))
  clear hB
  have za0 := HK.blk_cell HKa14.out 0
  have za1 := HK.blk_cell HKa14.out 1
  have za2 := HK.blk_cell HKa14.out 2
  have za3 := HK.blk_cell HKa14.out 3
  have hfs := fs_one (lo := 0) (HIA.out.up HB14.out).fm (Nat.zero_le _)
  have hzo : zO l < 256 := by unfold zO; split <;> omega
  have hoc := of_call (w14.alloc (.cells #[.int .u8 (oa : Int), .string na, .slice aa pa qa, .slice sa ta ua] 25)) 0 (zO l) hzo ⟨#[]⟩ (by decide) _ _ _ _ hfs
  have HOC := Lib.hid hoc
  clear hoc hfs
  go_wp2_with (fail)
  go_at_call 20
  with_reducible refine HOC.out.mono ?_
  rintro _ w15 ⟨rfl, hB, hv⟩
  have hB := (bl_al9 (W := w14) (.cells #[.int .u8 (oa : Int), .string na, .slice aa pa qa, .slice sa ta ua] 25)).trans (hB.mono (bl_al9 _).size)
  obtain ⟨g1, hg1⟩ : ∃ g, g = w14.heap.size := ⟨_, rfl⟩
  rw [← hg1] at hv ⊢
  have HV15 := Lib.hid hv
  have HKa15 := Lib.hid (HKa14.out.up hB)
  have HKb15 := Lib.hid (HKb14.out.up hB)
  have HKc15 := Lib.hid (HKc14.out.up hB)
  have HB15 := Lib.hid (HB14.out.trans (hB.mono HB14.out.size))
  clear hB hv hg1 HOC za0 za1 za2 za3
  go_upto_region 12 with (fail)
  have HKa16 := Lib.hid (HKa15.out.up (bl_al9 (.cells #[.int .u8 (zO l : Int), .string ⟨#[]⟩, .slice none 0 0, .slice (some ⟨g1, 0, none⟩) 1 1] 25)))
  have HKb16 := Lib.hid (HKb15.out.up (bl_al9 (.cells #[.int .u8 (zO l : Int), .string ⟨#[]⟩, .slice none 0 0, .slice (some ⟨g1, 0, none⟩) 1 1] 25)))
  have HKc16 := Lib.hid (HKc15.out.up (bl_al9 (.cells #[.int .u8 (zO l : Int), .string ⟨#[]⟩, .slice none 0 0, .slice (some ⟨g1, 0, none⟩) 1 1] 25)))
  have HB16 := Lib.hid (HB15.out.trans ((bl_al9 (W := w15) (.cells #[.int .u8 (zO l : Int), .string ⟨#[]⟩, .slice none 0 0, .slice (some ⟨g1, 0, none⟩) 1 1] 25)).mono HB15.out.size))
  have HF16 : Hid (BoxAt (w15.alloc (.cells #[.int .u8 (zO l : Int), .string ⟨#[]⟩, .slice none 0 0, .slice (some ⟨g1, 0, none⟩) 1 1] 25)) (w15.heap.size) #[.int .u8 (zO l : Int), .string ⟨#[]⟩, .slice none 0 0, .slice (some ⟨g1, 0, none⟩) 1 1]) := Lib.hid (HK.blk_new _ _)
  have HV16 : Hid (FmS (fun k => k < (w15.alloc (.cells #[.int .u8 (zO l : Int), .string ⟨#[]⟩, .slice none 0 0, .slice (some ⟨g1, 0, none⟩) 1 1] 25)).heap.size) (w15.alloc (.cells #[.int .u8 (zO l : Int), .string ⟨#[]⟩, .slice none 0 0, .slice (some ⟨g1, 0, none⟩) 1 1] 25)) (Op1 (zO l) (.mk oa na ga ha)) (.agg #[.int .u8 (zO l : Int), .string ⟨#[]⟩, .slice none 0 0, .slice (some ⟨g1, 0, none⟩) 1 1])) := Lib.hid (FmS.turn HV15.out fun k hk => ⟨by have := hk.2; simp only [World.size_alloc]; omega, Below.heap_alloc _ _ _ hk.2⟩)
  obtain ⟨b22, hb22⟩ : ∃ b, b = w15.heap.size := ⟨_, rfl⟩
  rw [← hb22] at HF16 ⊢
  obtain ⟨w16, hw16⟩ : ∃ x, x = w15.alloc (.cells #[.int .u8 (zO l : Int), .string ⟨#[]⟩, .slice none 0 0, .slice (some ⟨g1, 0, none⟩) 1 1] 25) := ⟨_, rfl⟩
  rw [← hw16] at HKa16 HKb16 HKc16 HB16 HF16 HV16 ⊢
  clear hw16
  clear hb22
  have HVb16 : Hid (FmS (fun k => k < w16.heap.size) w16 (.mk ob nb gb hb) (.agg #[.int .u8 (ob : Int), .string nb, .slice ab pb qb, .slice sb tb ub])) := Lib.hid (FmS.turn (HIB.out.up HB16.out).fm fun k hk => ⟨hk.2, rfl⟩)
  have HVc16 : Hid (FmS (fun k => k < w16.heap.size) w16 (.mk oc nc gc hc) (.agg #[.int .u8 (oc : Int), .string nc, .slice ac pc qc, .slice sc tc uc])) := Lib.hid (FmS.turn (HIC.out.up HB16.out).fm fun k hk => ⟨hk.2, rfl⟩)
  go_cut [23] from 23 to 118 (fun v wx => ∃ B, v = .pointer (some ⟨B, 0, none⟩) ∧ BoxF w16.heap.size wx B (Op2 (lvO j) (Op2 (lvO i) (Op1 (zO l) (.mk oa na ga ha)) (.mk ob nb gb hb)) (.mk oc nc gc hc)) ∧ Below w16.heap.size w16 wx)
  case first =>
    refine Go.RE.wp_region_eachg [110, 111, 112, 113, 114, 115, 116, 117, 118, 23] (fun L x W => (Below w16.heap.size w16 W) ∧ (L 0 = true → x 110 = .int .u8 (lvO j : Int)) ∧ (L 1 = true → x 111 = .int .u8 (lvO i : Int)) ∧ (L 2 = true → x 112 = .agg #[.int .u8 (zO l : Int), .string ⟨#[]⟩, .slice none 0 0, .slice (some ⟨g1, 0, none⟩) 1 1]) ∧ (L 3 = true → x 113 = .agg #[.int .u8 (ob : Int), .string nb, .slice ab pb qb, .slice sb tb ub]) ∧ (L 4 = true → FsS (SX W (L 9) (x 23)) W [(Op1 (zO l) (.mk oa na ga ha)), (.mk ob nb gb hb)] (x 114)) ∧ (L 5 = true → FmS (SX W (L 9) (x 23)) W (Op2 (lvO i) (Op1 (zO l) (.mk oa na ga ha)) (.mk ob nb gb hb)) (x 115)) ∧ (L 6 = true → x 116 = .agg #[.int .u8 (oc : Int), .string nc, .slice ac pc qc, .slice sc tc uc]) ∧ (L 7 = true → FsS (SX W (L 9) (x 23)) W [(Op2 (lvO i) (Op1 (zO l) (.mk oa na ga ha)) (.mk ob nb gb hb)), (.mk oc nc gc hc)] (x 117)) ∧ (L 8 = true → FmS (SX W (L 9) (x 23)) W (Op2 (lvO j) (Op2 (lvO i) (Op1 (zO l) (.mk oa na ga ha)) (.mk ob nb gb hb)) (.mk oc nc gc hc)) (x 118)) ∧ (L 9 = true → BxO w16.heap.size W (x 23)) ∧ (L 10 = true → L 9 = true ∧ ∃ B, x 23 = .pointer (some ⟨B, 0, none⟩) ∧ BoxF w16.heap.size W B (Op2 (lvO j) (Op2 (lvO i) (Op1 (zO l) (.mk oa na ga ha)) (.mk ob nb gb hb)) (.mk oc nc gc hc)))) (by kernel_rfl) (by kernel_rfl) (by kernel_rfl) ?_ ((Go.RE.Each.cons ?_ (Go.RE.Each.cons ?_ (Go.RE.Each.cons ?_ (Go.RE.Each.cons ?_ (Go.RE.Each.cons ?_ (Go.RE.Each.cons ?_ (Go.RE.Each.cons ?_ (Go.RE.Each.cons ?_ (Go.RE.Each.cons ?_ (Go.RE.Each.cons ?_ (Go.RE.Each.cons ?_ Go.RE.Each.nil)))))))))))) ?_
    · exact fun x => ⟨bl_dr9 (Below.refl _ _), nofun, nofun, nofun, nofun, nofun, nofun, nofun, nofun, nofun, nofun, nofun⟩
    · intro L x a wR K hL hd hf hx hΦ hK
      obtain ⟨hI, f0, f1, f2, f3, f4, f5, f6, f7, f8, f9, f10⟩ := hΦ
      refine ⟨fun _ => ?_, fun h => absurd h (by rw [Go.RE.wanted_none rfl]; decide)⟩
      have e15 : a.tmps[15]? = some (.int .u8 (lvO j : Int)) := hf 15 (of_decide_eq_true (by kernel_rfl))
      clear hf hx hd
      go_simp
      refine hK _ _ ?_
      exact ⟨hI, fun _ => rfl, f1, f2, f3, f4, f5, f6, f7, f8, f9, f10⟩
    · intro L x a wR K hL hd hf hx hΦ hK
      obtain ⟨hI, f0, f1, f2, f3, f4, f5, f6, f7, f8, f9, f10⟩ := hΦ
      refine ⟨fun _ => ?_, fun h => absurd h (by rw [Go.RE.wanted_none rfl]; decide)⟩
      have e14 : a.tmps[14]? = some (.int .u8 (lvO i : Int)) := hf 14 (of_decide_eq_true (by kernel_rfl))
      clear hf hx hd
      go_simp
      refine hK _ _ ?_
      exact ⟨hI, f0, fun _ => rfl, f2, f3, f4, f5, f6, f7, f8, f9, f10⟩
    · intro L x a wR K hL hd hf hx hΦ hK
      obtain ⟨hI, f0, f1, f2, f3, f4, f5, f6, f7, f8, f9, f10⟩ := hΦ
      refine ⟨fun _ => ?_, fun h => absurd h (by rw [Go.RE.wanted_none rfl]; decide)⟩
      have e22 : a.tmps[22]? = some (.pointer (some ⟨b22, 0, none⟩)) := hf 22 (of_decide_eq_true (by kernel_rfl))
      have kb := HF16.out.up hI
      have c0 := HK.blk_cell kb 0
      have c1 := HK.blk_cell kb 1
      have c2 := HK.blk_cell kb 2
      have c3 := HK.blk_cell kb 3
      clear hf hx hd
      go_simp
      refine hK _ _ ?_
      exact ⟨hI, f0, f1, fun _ => rfl, f3, f4, f5, f6, f7, f8, f9, f10⟩
    · intro L x a wR K hL hd hf hx hΦ hK
      obtain ⟨hI, f0, f1, f2, f3, f4, f5, f6, f7, f8, f9, f10⟩ := hΦ
      refine ⟨fun _ => ?_, fun h => absurd h (by rw [Go.RE.wanted_none rfl]; decide)⟩
      have e7 : a.tmps[7]? = some (.pointer (some ⟨w.heap.size + 1, 0, none⟩)) := hf 7 (of_decide_eq_true (by kernel_rfl))
      have kb := HKb16.out.up hI
      have c0 := HK.blk_cell kb 0
      have c1 := HK.blk_cell kb 1
      have c2 := HK.blk_cell kb 2
      have c3 := HK.blk_cell kb 3
      clear hf hx hd
      go_simp
      refine hK _ _ ?_
      exact ⟨hI, f0, f1, f2, fun _ => rfl, f4, f5, f6, f7, f8, f9, f10⟩
    · intro L x a wR K hL hd hf hx hΦ hK
      obtain ⟨hI, f0, f1, f2, f3, f4, f5, f6, f7, f8, f9, f10⟩ := hΦ
      refine ⟨fun _ => ?_, fun h => absurd h (by rw [Go.RE.wanted_none rfl]; decide)⟩
      have d2 := f2 (hd 2 (by kernel_rfl))
      have e112 : a.tmps[112]? = some (x 112) := hx 2 _ 112 rfl rfl (hd 2 (by kernel_rfl))
      rw [d2] at e112
      have d3 := f3 (hd 3 (by kernel_rfl))
      have e113 : a.tmps[113]? = some (x 113) := hx 3 _ 113 rfl rfl (hd 3 (by kernel_rfl))
      rw [d3] at e113
      clear hf hx hd
      go_simp
      refine hK _ _ ?_
      exact ⟨below_tr9 hI (Nat.le_refl _) (bl_al9 _), f0, f1, f2, f3, fun _ => fs_two_S ((HV16.out.keep hI f9).upx (bl_al9 _)) ((HVb16.out.keep hI f9).upx (bl_al9 _)) (HK.blk_new _ _) (SX.new f9 _), fun h => (f5 h).upx (bl_al9 _), f6, fun h => (f7 h).upx (bl_al9 _), fun h => (f8 h).upx (bl_al9 _), fun h => (f9 h).up (bl_al9 _), fun h => ⟨(f10 h).1, (f10 h).2.imp fun _ h => ⟨h.1, h.2.up (bl_al9 _)⟩⟩⟩
    · intro L x a wR K hL hd hf hx hΦ hK
      obtain ⟨hI, f0, f1, f2, f3, f4, f5, f6, f7, f8, f9, f10⟩ := hΦ
      refine ⟨fun _ => ?_, fun h => absurd h (by rw [Go.RE.wanted_none rfl]; decide)⟩
      have d1 := f1 (hd 1 (by kernel_rfl))
      have e111 : a.tmps[111]? = some (x 111) := hx 1 _ 111 rfl rfl (hd 1 (by kernel_rfl))
      rw [d1] at e111
      have d4 := f4 (hd 4 (by kernel_rfl))
      have e114 : a.tmps[114]? = some (x 114) := hx 4 _ 114 rfl rfl (hd 4 (by kernel_rfl))
      clear hf hx hd
      obtain ⟨sa9, sn9, sc9, hv9, hfs9⟩ := FsS.fx d4
      rw [hv9] at e114
      go_simp
      go_at_call 20
      with_reducible refine (of_call _ 0 (lvO i) (lt5 HII.out) ⟨#[]⟩ (by decide) _ _ _ _ (hfs9.fsv SX.lt)).mono ?_
      rintro e w' ⟨rfl, hB8, -⟩
      simp only
      refine hK _ _ ?_
      exact ⟨below_tr9 hI (Nat.le_refl _) hB8, f0, f1, f2, f3, fun h => (f4 h).upx hB8, fun _ => FmS.of (hfs9.upx hB8) (lt5 HII.out), f6, fun h => (f7 h).upx hB8, fun h => (f8 h).upx hB8, fun h => (f9 h).up hB8, fun h => ⟨(f10 h).1, (f10 h).2.imp fun _ h => ⟨h.1, h.2.up hB8⟩⟩⟩
    · intro L x a wR K hL hd hf hx hΦ hK
      obtain ⟨hI, f0, f1, f2, f3, f4, f5, f6, f7, f8, f9, f10⟩ := hΦ
      refine ⟨fun _ => ?_, fun h => absurd h (by rw [Go.RE.wanted_none rfl]; decide)⟩
      have e8 : a.tmps[8]? = some (.pointer (some ⟨w.heap.size + 1 + 1, 0, none⟩)) := hf 8 (of_decide_eq_true (by kernel_rfl))
      have kb := HKc16.out.up hI
      have c0 := HK.blk_cell kb 0
      have c1 := HK.blk_cell kb 1
      have c2 := HK.blk_cell kb 2
      have c3 := HK.blk_cell kb 3
      clear hf hx hd
      go_simp
      refine hK _ _ ?_
      exact ⟨hI, f0, f1, f2, f3, f4, f5, fun _ => rfl, f7, f8, f9, f10⟩
    · intro L x a wR K hL hd hf hx hΦ hK
      obtain ⟨hI, f0, f1, f2, f3, f4, f5, f6, f7, f8, f9, f10⟩ := hΦ
      refine ⟨fun _ => ?_, fun h => absurd h (by rw [Go.RE.wanted_none rfl]; decide)⟩
      have d5 := f5 (hd 5 (by kernel_rfl))
      have e115 : a.tmps[115]? = some (x 115) := hx 5 _ 115 rfl rfl (hd 5 (by kernel_rfl))
      have d6 := f6 (hd 6 (by kernel_rfl))
      have e116 : a.tmps[116]? = some (x 116) := hx 6 _ 116 rfl rfl (hd 6 (by kernel_rfl))
      rw [d6] at e116
      clear hf hx hd
      obtain ⟨fo1, fn1, fa1, fb1, fc1, ga1, gb1, gc1, hv1, hf1⟩ := FmS.fx d5
      rw [hv1] at e115
      go_simp
      refine hK _ _ ?_
      exact ⟨below_tr9 hI (Nat.le_refl _) (bl_al9 _), f0, f1, f2, f3, fun h => (f4 h).upx (bl_al9 _), fun h => (f5 h).upx (bl_al9 _), f6, fun _ => fs_two_S (hf1.upx (bl_al9 _)) ((HVc16.out.keep hI f9).upx (bl_al9 _)) (HK.blk_new _ _) (SX.new f9 _), fun h => (f8 h).upx (bl_al9 _), fun h => (f9 h).up (bl_al9 _), fun h => ⟨(f10 h).1, (f10 h).2.imp fun _ h => ⟨h.1, h.2.up (bl_al9 _)⟩⟩⟩
    · intro L x a wR K hL hd hf hx hΦ hK
      obtain ⟨hI, f0, f1, f2, f3, f4, f5, f6, f7, f8, f9, f10⟩ := hΦ
      refine ⟨fun _ => ?_, fun h => absurd h (by rw [Go.RE.wanted_none rfl]; decide)⟩
      have d0 := f0 (hd 0 (by kernel_rfl))
      have e110 : a.tmps[110]? = some (x 110) := hx 0 _ 110 rfl rfl (hd 0 (by kernel_rfl))
      rw [d0] at e110
      have d7 := f7 (hd 7 (by kernel_rfl))
      have e117 : a.tmps[117]? = some (x 117) := hx 7 _ 117 rfl rfl (hd 7 (by kernel_rfl))
      clear hf hx hd
      obtain ⟨sa9, sn9, sc9, hv9, hfs9⟩ := FsS.fx d7
      rw [hv9] at e117
      go_simp
      go_at_call 20
      with_reducible refine (of_call _ 0 (lvO j) (lt5 HJJ.out) ⟨#[]⟩ (by decide) _ _ _ _ (hfs9.fsv SX.lt)).mono ?_
      rintro e w' ⟨rfl, hB8, -⟩
      simp only
      refine hK _ _ ?_
      exact ⟨below_tr9 hI (Nat.le_refl _) hB8, f0, f1, f2, f3, fun h => (f4 h).upx hB8, fun h => (f5 h).upx hB8, f6, fun h => (f7 h).upx hB8, fun _ => FmS.of (hfs9.upx hB8) (lt5 HJJ.out), fun h => (f9 h).up hB8, fun h => ⟨(f10 h).1, (f10 h).2.imp fun _ h => ⟨h.1, h.2.up hB8⟩⟩⟩
    · intro L x a wR K hL hd hf hx hΦ hK
      obtain ⟨hI, f0, f1, f2, f3, f4, f5, f6, f7, f8, f9, f10⟩ := hΦ
      refine ⟨fun _ => ?_, fun h => absurd h (by rw [Go.RE.wanted_none rfl]; decide)⟩
      clear hf hx hd
      go_simp
      refine hK _ _ ?_
      exact ⟨below_tr9 hI (Nat.le_refl _) (bl_al9 _), f0, f1, f2, f3, fun h => (f4 h).boxx _, fun h => (f5 h).boxx _, f6, fun h => (f7 h).boxx _, fun h => (f8 h).boxx _, fun _ => BxO.fresh hI.size, fun h => by have hh := f10 h; simp [hL] at hh⟩
    · intro L x a wR K hL hd hf hx hΦ hK
      obtain ⟨hI, f0, f1, f2, f3, f4, f5, f6, f7, f8, f9, f10⟩ := hΦ
      refine ⟨fun _ => ?_, fun h => absurd h (by rw [Go.RE.wanted_none rfl]; decide)⟩
      have r9 := hd 9 (by kernel_rfl)
      have d9 := f9 r9
      have e23 : a.tmps[23]? = some (x 23) := hx 9 _ 23 rfl rfl (hd 9 (by kernel_rfl))
      have d8 := f8 (hd 8 (by kernel_rfl))
      have e118 : a.tmps[118]? = some (x 118) := hx 8 _ 118 rfl rfl (hd 8 (by kernel_rfl))
      clear hf hx hd
      obtain ⟨fo2, fn2, fa2, fb2, fc2, ga2, gb2, gc2, hv2, hf2⟩ := FmS.fx d8
      rw [hv2] at e118
      obtain ⟨B, k0, k1, k2, k3, hp, hbk, hm⟩ := d9
      rw [hp] at e23
      have c := HK.blk_cell hbk
      have k0' := c 0
      have k1' := c 1
      have k2' := c 2
      have k3' := c 3
      clear c
      have cf := fun i => HK.blk_frozen hbk i
      go_simp
      refine hK undef _ ?_
      exact ⟨below4 hI hm _ _ _ _, f0, f1, f2, f3, fun h => (f4 h).fillx r9 hp _ _ _ _, fun h => (f5 h).fillx r9 hp _ _ _ _, f6, fun h => (f7 h).fillx r9 hp _ _ _ _, fun h => (f8 h).fillx r9 hp _ _ _ _, fun h => ⟨B, _, _, _, _, hp, set4 hbk _ _ _ _, hm⟩, fun _ => ⟨r9, B, hp, _, _, _, _, _, _, _, _, set4 hbk _ _ _ _, hm, hf2.fillv r9 hp _ _ _ _⟩⟩
    · rintro x W ⟨hI, f0, f1, f2, f3, f4, f5, f6, f7, f8, f9, f10⟩
      obtain ⟨B, hp, hbf⟩ := (f10 rfl).2
      simp only [Exit.then]
      go_step
      go_meet
      exact ⟨B, hp, hbf, hI⟩
  case rest =>
  obtain ⟨b23, rfl, hbf, hB⟩ := hcut
  have HKa17 := Lib.hid (HKa16.out.up hB)
  have HKb17 := Lib.hid (HKb16.out.up hB)
  have HKc17 := Lib.hid (HKc16.out.up hB)
  have HF17 := Lib.hid (HF16.out.up hB)
  have HB17 := Lib.hid (HB16.out.trans (hB.mono HB16.out.size))
  have HV17 : Hid (FmS (fun k => k < w16.heap.size) wc (Op1 (zO l) (.mk oa na ga ha)) (.agg #[.int .u8 (zO l : Int), .string ⟨#[]⟩, .slice none 0 0, .slice (some ⟨g1, 0, none⟩) 1 1])) := Lib.hid (HV16.out.turn fun k hk => ⟨hk, hB.block k hk⟩)
  have HVb17 : Hid (FmS (fun k => k < w16.heap.size) wc (.mk ob nb gb hb) (.agg #[.int .u8 (ob : Int), .string nb, .slice ab pb qb, .slice sb tb ub])) := Lib.hid (HVb16.out.turn fun k hk => ⟨hk, hB.block k hk⟩)
  have HVc17 : Hid (FmS (fun k => k < w16.heap.size) wc (.mk oc nc gc hc) (.agg #[.int .u8 (oc : Int), .string nc, .slice ac pc qc, .slice sc tc uc])) := Lib.hid (HVc16.out.turn fun k hk => ⟨hk, hB.block k hk⟩)
  have HX17 := Lib.hid hbf
  have HM17 := Lib.hid hB.size
  clear hB hbf
  obtain ⟨w17, hw17⟩ : ∃ x : World, x = wc := ⟨_, rfl⟩
  subst hw17
  obtain ⟨bb, hbb⟩ : ∃ b, b = decide (i < j ∨ (j = i ∧ lvR i = true)) := ⟨_, rfl⟩
  have HBB := Lib.hid hbb
  clear hbb
  go_upto_region 13 with (fail)
  go_cut [129] from 119 to 129 (fun v wx => v = .bool bb ∧ w17 = wx)
  case first =>
    have hq := HVI.out
    have hbb := HBB.out
    by_cases h1 : vi < vj
    · have h2 : bb = true := by rw [hbb]; exact decide_eq_true (.inl (by omega))
      have H2 := Lib.hid h2
      clear h2 hq hbb
      go_wp2_with (fail)
      go_meet
      exact ⟨by rw [H2.out], rfl⟩
    · by_cases h3 : vj = vi
      · have h4 : (vj == vi) = true := by rw [h3]; simp
        have h5 : bb = bi := by
          rw [hbb, hq.2.2]
          have hji : j = i := by omega
          rcases lvR i with _ | _
          · exact decide_eq_false fun h => by rcases h with h | h; omega; cases h.2
          · exact decide_eq_true (.inr ⟨hji, rfl⟩)
        have H5 := Lib.hid h5
        clear h3 h5 hq hbb
        rcases bi with _ | _
        · go_wp2_with (fail)
          go_meet
          exact ⟨by rw [H5.out], rfl⟩
        · go_wp2_with (fail)
          go_meet
          exact ⟨by rw [H5.out], rfl⟩
      · have h4 : (vj == vi) = false := by simpa using h3
        have h5 : bb = false := by rw [hbb]; exact decide_eq_false fun h => by rcases h with h | h <;> omega
        have H5 := Lib.hid h5
        clear h3 h5 hq hbb
        go_wp2_with (fail)
        go_meet
        exact ⟨by rw [H5.out], rfl⟩
  case rest =>
  obtain ⟨rfl, rfl⟩ := hcut
  obtain ⟨fw, hfw⟩ : ∃ f, f = wantF i j (Op1 (zO l) (.mk oa na ga ha)) (.mk ob nb gb hb) (.mk oc nc gc hc) := ⟨_, rfl⟩
  rw [← hfw] at HRD
  have HFW := Lib.hid hfw
  clear hfw
  go_upto_if 129 with (fail)
  go_cut [] from 129 to 160 (fun wx => BoxF w16.heap.size wx b23 fw ∧ Below w16.heap.size w17 wx)
  case first =>
    rcases bb with _ | _
    · have hfw : fw = (Op2 (lvO j) (Op2 (lvO i) (Op1 (zO l) (.mk oa na ga ha)) (.mk ob nb gb hb)) (.mk oc nc gc hc)) := by
        rw [HFW.out]
        unfold wantF
        rw [if_neg (of_decide_eq_false HBB.out.symm)]
      go_wp2_with (fail)
      go_meet
      exact ⟨by rw [hfw]; exact HX17.out, Below.refl _ _⟩
    · have hfw : fw = (Op2 (lvO i) (Op1 (zO l) (.mk oa na ga ha)) (Op2 (lvO j) (.mk ob nb gb hb) (.mk oc nc gc hc))) := by
        rw [HFW.out]
        unfold wantF
        rw [if_pos (of_decide_eq_true HBB.out.symm)]
      go_upto_region 14 with (fail)
      refine Go.RE.wp_region_eachg [130, 131, 132, 133, 134, 135, 136, 137, 138] (fun L x W => (Below w16.heap.size w17 W ∧ BxO w16.heap.size W (.pointer (some ⟨b23, 0, none⟩))) ∧ (L 0 = true → x 130 = .int .u8 (lvO i : Int)) ∧ (L 1 = true → x 131 = .agg #[.int .u8 (zO l : Int), .string ⟨#[]⟩, .slice none 0 0, .slice (some ⟨g1, 0, none⟩) 1 1]) ∧ (L 2 = true → x 132 = .int .u8 (lvO j : Int)) ∧ (L 3 = true → x 133 = .agg #[.int .u8 (ob : Int), .string nb, .slice ab pb qb, .slice sb tb ub]) ∧ (L 4 = true → x 134 = .agg #[.int .u8 (oc : Int), .string nc, .slice ac pc qc, .slice sc tc uc]) ∧ (L 5 = true → FsS (SX W true (.pointer (some ⟨b23, 0, none⟩))) W [(.mk ob nb gb hb), (.mk oc nc gc hc)] (x 135)) ∧ (L 6 = true → FmS (SX W true (.pointer (some ⟨b23, 0, none⟩))) W (Op2 (lvO j) (.mk ob nb gb hb) (.mk oc nc gc hc)) (x 136)) ∧ (L 7 = true → FsS (SX W true (.pointer (some ⟨b23, 0, none⟩))) W [(Op1 (zO l) (.mk oa na ga ha)), (Op2 (lvO j) (.mk ob nb gb hb) (.mk oc nc gc hc))] (x 137)) ∧ (L 8 = true → FmS (SX W true (.pointer (some ⟨b23, 0, none⟩))) W (Op2 (lvO i) (Op1 (zO l) (.mk oa na ga ha)) (Op2 (lvO j) (.mk ob nb gb hb) (.mk oc nc gc hc))) (x 138)) ∧ (L 9 = true → BoxF w16.heap.size W b23 (Op2 (lvO i) (Op1 (zO l) (.mk oa na ga ha)) (Op2 (lvO j) (.mk ob nb gb hb) (.mk oc nc gc hc))))) (by kernel_rfl) (by kernel_rfl) (by kernel_rfl) ?_ ((Go.RE.Each.cons ?_ (Go.RE.Each.cons ?_ (Go.RE.Each.cons ?_ (Go.RE.Each.cons ?_ (Go.RE.Each.cons ?_ (Go.RE.Each.cons ?_ (Go.RE.Each.cons ?_ (Go.RE.Each.cons ?_ (Go.RE.Each.cons ?_ (Go.RE.Each.cons ?_ Go.RE.Each.nil))))))))))) ?_
      · exact fun x => ⟨⟨bl_dr9 (Below.refl _ _), HX17.out.box⟩, nofun, nofun, nofun, nofun, nofun, nofun, nofun, nofun, nofun, nofun⟩
      · intro L x a wR K hL hd hf hx hΦ hK
        obtain ⟨hI, f0, f1, f2, f3, f4, f5, f6, f7, f8, f9⟩ := hΦ
        refine ⟨fun _ => ?_, fun h => absurd h (by rw [Go.RE.wanted_none rfl]; decide)⟩
        have e14 : a.tmps[14]? = some (.int .u8 (lvO i : Int)) := hf 14 (of_decide_eq_true (by kernel_rfl))
        clear hf hx hd
        go_simp
        refine hK _ _ ?_
        exact ⟨hI, fun _ => rfl, f1, f2, f3, f4, f5, f6, f7, f8, f9⟩
      · intro L x a wR K hL hd hf hx hΦ hK
        obtain ⟨hI, f0, f1, f2, f3, f4, f5, f6, f7, f8, f9⟩ := hΦ
        refine ⟨fun _ => ?_, fun h => absurd h (by rw [Go.RE.wanted_none rfl]; decide)⟩
        have e22 : a.tmps[22]? = some (.pointer (some ⟨b22, 0, none⟩)) := hf 22 (of_decide_eq_true (by kernel_rfl))
        have kb := (hI.1.block _ (HK.blk_lt HF16.out)).trans HF17.out
        have c0 := HK.blk_cell kb 0
        have c1 := HK.blk_cell kb 1
        have c2 := HK.blk_cell kb 2
        have c3 := HK.blk_cell kb 3
        clear hf hx hd
        go_simp
        refine hK _ _ ?_
        exact ⟨hI, f0, fun _ => rfl, f2, f3, f4, f5, f6, f7, f8, f9⟩
      · intro L x a wR K hL hd hf hx hΦ hK
        obtain ⟨hI, f0, f1, f2, f3, f4, f5, f6, f7, f8, f9⟩ := hΦ
        refine ⟨fun _ => ?_, fun h => absurd h (by rw [Go.RE.wanted_none rfl]; decide)⟩
        have e15 : a.tmps[15]? = some (.int .u8 (lvO j : Int)) := hf 15 (of_decide_eq_true (by kernel_rfl))
        clear hf hx hd
        go_simp
        refine hK _ _ ?_
        exact ⟨hI, f0, f1, fun _ => rfl, f3, f4, f5, f6, f7, f8, f9⟩
      · intro L x a wR K hL hd hf hx hΦ hK
        obtain ⟨hI, f0, f1, f2, f3, f4, f5, f6, f7, f8, f9⟩ := hΦ
        refine ⟨fun _ => ?_, fun h => absurd h (by rw [Go.RE.wanted_none rfl]; decide)⟩
        have e7 : a.tmps[7]? = some (.pointer (some ⟨w.heap.size + 1, 0, none⟩)) := hf 7 (of_decide_eq_true (by kernel_rfl))
        have kb := (hI.1.block _ (HK.blk_lt HKb16.out)).trans HKb17.out
        have c0 := HK.blk_cell kb 0
        have c1 := HK.blk_cell kb 1
        have c2 := HK.blk_cell kb 2
        have c3 := HK.blk_cell kb 3
        clear hf hx hd
        go_simp
        refine hK _ _ ?_
        exact ⟨hI, f0, f1, f2, fun _ => rfl, f4, f5, f6, f7, f8, f9⟩
      · intro L x a wR K hL hd hf hx hΦ hK
        obtain ⟨hI, f0, f1, f2, f3, f4, f5, f6, f7, f8, f9⟩ := hΦ
        refine ⟨fun _ => ?_, fun h => absurd h (by rw [Go.RE.wanted_none rfl]; decide)⟩
        have e8 : a.tmps[8]? = some (.pointer (some ⟨w.heap.size + 1 + 1, 0, none⟩)) := hf 8 (of_decide_eq_true (by kernel_rfl))
        have kb := (hI.1.block _ (HK.blk_lt HKc16.out)).trans HKc17.out
        have c0 := HK.blk_cell kb 0
        have c1 := HK.blk_cell kb 1
        have c2 := HK.blk_cell kb 2
        have c3 := HK.blk_cell kb 3
        clear hf hx hd
        go_simp
        refine hK _ _ ?_
        exact ⟨hI, f0, f1, f2, f3, fun _ => rfl, f5, f6, f7, f8, f9⟩
      · intro L x a wR K hL hd hf hx hΦ hK
        obtain ⟨hI, f0, f1, f2, f3, f4, f5, f6, f7, f8, f9⟩ := hΦ
        refine ⟨fun _ => ?_, fun h => absurd h (by rw [Go.RE.wanted_none rfl]; decide)⟩
        have d3 := f3 (hd 3 (by kernel_rfl))
        have e133 : a.tmps[133]? = some (x 133) := hx 3 _ 133 rfl rfl (hd 3 (by kernel_rfl))
        rw [d3] at e133
        have d4 := f4 (hd 4 (by kernel_rfl))
        have e134 : a.tmps[134]? = some (x 134) := hx 4 _ 134 rfl rfl (hd 4 (by kernel_rfl))
        rw [d4] at e134
        clear hf hx hd
        go_simp
        refine hK _ _ ?_
        exact ⟨⟨below_tr9 hI.1 HM17.out (bl_al9 _), hI.2.up (bl_al9 _)⟩, f0, f1, f2, f3, f4, fun _ => fs_two_S (FmS.upx (HVb17.out.keep2 hI.1 hI.2) (bl_al9 _)) (FmS.upx (HVc17.out.keep2 hI.1 hI.2) (bl_al9 _)) (HK.blk_new _ _) (SX.new (fun _ => hI.2) _), fun h => (f6 h).upx (bl_al9 _), fun h => (f7 h).upx (bl_al9 _), fun h => (f8 h).upx (bl_al9 _), fun h => (f9 h).up (bl_al9 _)⟩
      · intro L x a wR K hL hd hf hx hΦ hK
        obtain ⟨hI, f0, f1, f2, f3, f4, f5, f6, f7, f8, f9⟩ := hΦ
        refine ⟨fun _ => ?_, fun h => absurd h (by rw [Go.RE.wanted_none rfl]; decide)⟩
        have d2 := f2 (hd 2 (by kernel_rfl))
        have e132 : a.tmps[132]? = some (x 132) := hx 2 _ 132 rfl rfl (hd 2 (by kernel_rfl))
        rw [d2] at e132
        have d5 := f5 (hd 5 (by kernel_rfl))
        have e135 : a.tmps[135]? = some (x 135) := hx 5 _ 135 rfl rfl (hd 5 (by kernel_rfl))
        clear hf hx hd
        obtain ⟨sa9, sn9, sc9, hv9, hfs9⟩ := FsS.fx d5
        rw [hv9] at e135
        go_simp
        go_at_call 20
        with_reducible refine (of_call _ 0 (lvO j) (lt5 HJJ.out) ⟨#[]⟩ (by decide) _ _ _ _ (hfs9.fsv SX.lt)).mono ?_
        rintro e w' ⟨rfl, hB8, -⟩
        simp only
        refine hK _ _ ?_
        exact ⟨⟨below_tr9 hI.1 HM17.out hB8, hI.2.up hB8⟩, f0, f1, f2, f3, f4, fun h => (f5 h).upx hB8, fun _ => FmS.of (hfs9.upx hB8) (lt5 HJJ.out), fun h => (f7 h).upx hB8, fun h => (f8 h).upx hB8, fun h => (f9 h).up hB8⟩
      · intro L x a wR K hL hd hf hx hΦ hK
        obtain ⟨hI, f0, f1, f2, f3, f4, f5, f6, f7, f8, f9⟩ := hΦ
        refine ⟨fun _ => ?_, fun h => absurd h (by rw [Go.RE.wanted_none rfl]; decide)⟩
        have d1 := f1 (hd 1 (by kernel_rfl))
        have e131 : a.tmps[131]? = some (x 131) := hx 1 _ 131 rfl rfl (hd 1 (by kernel_rfl))
        rw [d1] at e131
        have d6 := f6 (hd 6 (by kernel_rfl))
        have e136 : a.tmps[136]? = some (x 136) := hx 6 _ 136 rfl rfl (hd 6 (by kernel_rfl))
        clear hf hx hd
        obtain ⟨fo1, fn1, fa1, fb1, fc1, ga1, gb1, gc1, hv1, hf1⟩ := FmS.fx d6
        rw [hv1] at e136
        go_simp
        refine hK _ _ ?_
        exact ⟨⟨below_tr9 hI.1 HM17.out (bl_al9 _), hI.2.up (bl_al9 _)⟩, f0, f1, f2, f3, f4, fun h => (f5 h).upx (bl_al9 _), fun h => (f6 h).upx (bl_al9 _), fun _ => fs_two_S (FmS.upx (HV17.out.keep2 hI.1 hI.2) (bl_al9 _)) (hf1.upx (bl_al9 _)) (HK.blk_new _ _) (SX.new (fun _ => hI.2) _), fun h => (f8 h).upx (bl_al9 _), fun h => (f9 h).up (bl_al9 _)⟩
      · intro L x a wR K hL hd hf hx hΦ hK
        obtain ⟨hI, f0, f1, f2, f3, f4, f5, f6, f7, f8, f9⟩ := hΦ
        refine ⟨fun _ => ?_, fun h => absurd h (by rw [Go.RE.wanted_none rfl]; decide)⟩
        have d0 := f0 (hd 0 (by kernel_rfl))
        have e130 : a.tmps[130]? = some (x 130) := hx 0 _ 130 rfl rfl (hd 0 (by kernel_rfl))
        rw [d0] at e130
        have d7 := f7 (hd 7 (by kernel_rfl))
        have e137 : a.tmps[137]? = some (x 137) := hx 7 _ 137 rfl rfl (hd 7 (by kernel_rfl))
        clear hf hx hd
        obtain ⟨sa9, sn9, sc9, hv9, hfs9⟩ := FsS.fx d7
        rw [hv9] at e137
        go_simp
        go_at_call 20
        with_reducible refine (of_call _ 0 (lvO i) (lt5 HII.out) ⟨#[]⟩ (by decide) _ _ _ _ (hfs9.fsv SX.lt)).mono ?_
        rintro e w' ⟨rfl, hB8, -⟩
        simp only
        refine hK _ _ ?_
        exact ⟨⟨below_tr9 hI.1 HM17.out hB8, hI.2.up hB8⟩, f0, f1, f2, f3, f4, fun h => (f5 h).upx hB8, fun h => (f6 h).upx hB8, fun h => (f7 h).upx hB8, fun _ => FmS.of (hfs9.upx hB8) (lt5 HII.out), fun h => (f9 h).up hB8⟩
      · intro L x a wR K hL hd hf hx hΦ hK
        obtain ⟨hI, f0, f1, f2, f3, f4, f5, f6, f7, f8, f9⟩ := hΦ
        refine ⟨fun _ => ?_, fun h => absurd h (by rw [Go.RE.wanted_none rfl]; decide)⟩
        have e23 : a.tmps[23]? = some (.pointer (some ⟨b23, 0, none⟩)) := hf 23 (of_decide_eq_true (by kernel_rfl))
        have d8 := f8 (hd 8 (by kernel_rfl))
        have e138 : a.tmps[138]? = some (x 138) := hx 8 _ 138 rfl rfl (hd 8 (by kernel_rfl))
        clear hf hx hd
        obtain ⟨fo2, fn2, fa2, fb2, fc2, ga2, gb2, gc2, hv2, hf2⟩ := FmS.fx d8
        rw [hv2] at e138
        have d23 := hI.2
        obtain ⟨B, k0, k1, k2, k3, hp, hbk, hm⟩ := d23
        cases hp
        have c := HK.blk_cell hbk
        have k0' := c 0
        have k1' := c 1
        have k2' := c 2
        have k3' := c 3
        clear c
        have cf := fun i => HK.blk_frozen hbk i
        go_simp
        refine hK undef _ ?_
        exact ⟨⟨below4 hI.1 hm _ _ _ _, ⟨_, _, _, _, _, rfl, set4 hbk _ _ _ _, hm⟩⟩, f0, f1, f2, f3, f4, fun h => (f5 h).fillx rfl rfl _ _ _ _, fun h => (f6 h).fillx rfl rfl _ _ _ _, fun h => (f7 h).fillx rfl rfl _ _ _ _, fun h => (f8 h).fillx rfl rfl _ _ _ _, fun _ => ⟨_, _, _, _, _, _, _, _, set4 hbk _ _ _ _, hm, hf2.fillv rfl rfl _ _ _ _⟩⟩
      · rintro x W ⟨hI, f0, f1, f2, f3, f4, f5, f6, f7, f8, f9⟩
        rw [← hfw] at f9
        simp only [Exit.then]
        go_wp2_with (fail)
        go_meet
        exact ⟨f9 rfl, hI.1⟩
  case rest =>
  obtain ⟨hbf, hB⟩ := hcut
  have HB18 := Lib.hid ((HB17.out.trans (hB.mono HB16.out.size)))
  have HX18 := Lib.hid hbf
  clear hB hbf
  obtain ⟨w18, hw18⟩ : ∃ x : World, x = wc := ⟨_, rfl⟩
  subst hw18
  have HNO : Hid (nodesF fw ≤ 900000) := Lib.hid (by
    have := HNN.out
    rw [HFW.out]
    unfold wantF
    split <;> (simp only [nodes_two, nodes_one]; omega))
  by_cases hR : rightF fw = true
  · clear HFW
    have hr : formA (.ok fw) = .ok fw := by simp [formA, hR]
    have hfo := (form_out w18 (HL.out.below HB18.out) st (by have := HST.out; omega) (r := .ok fw) HRD.out).mono (R' := fun E W' => Below w18.heap.size w18 W' ∧ ∃ (o8 : Int) (nm : ByteArray) (aa : Option Addr) (an ac : Nat) (sa : Option Addr) (sn sc : Nat), E = .returned (.tuple #[.agg #[.int .u8 o8, .string nm, .slice aa an ac, .slice sa sn sc], .int .i64 0, .int .i64 0]) ∧ FmV W' w18.heap.size fw (.agg #[.int .u8 o8, .string nm, .slice aa an ac, .slice sa sn sc])) fun E W' h => by rw [hr] at h; exact h
    have HFO := Lib.hid hfo
    clear hfo hr
    go_wp2_with (fail)
    go_at_call 13
    with_reducible refine HFO.out.mono ?_
    rintro _ w19 ⟨hB, o8, n8, a8, b8, c8, d8, e8, f8, rfl, hv⟩
    have HG20 := Lib.hid (HK.blk_new w19 (.cells #[.int .u8 o8, .string n8, .slice a8 b8 c8, .slice d8 e8 f8] 25))
    have HY20 := Lib.hid (hv.up (bl_al9 (.cells #[.int .u8 o8, .string n8, .slice a8 b8 c8, .slice d8 e8 f8] 25)))
    have HX20 := Lib.hid ((HX18.out.up hB).up (bl_al9 (.cells #[.int .u8 o8, .string n8, .slice a8 b8 c8, .slice d8 e8 f8] 25)))
    have HB20 := Lib.hid ((HB18.out.trans (hB.mono HB18.out.size)).alloc (HB18.out.trans (hB.mono HB18.out.size)).size (.cells #[.int .u8 o8, .string n8, .slice a8 b8 c8, .slice d8 e8 f8] 25))
    clear hB hv HX18
    go_upto_region 16 with (fail)
    obtain ⟨b24, hb24⟩ : ∃ b, b = w19.heap.size := ⟨_, rfl⟩
    rw [← hb24] at HG20 ⊢
    obtain ⟨w20, hw20⟩ : ∃ x, x = w19.alloc (.cells #[.int .u8 o8, .string n8, .slice a8 b8 c8, .slice d8 e8 f8] 25) := ⟨_, rfl⟩
    rw [← hw20] at HG20 HY20 HX20 HB20 ⊢
    clear hw20 hb24
    obtain ⟨lo, hlo⟩ : ∃ x, x = w18.heap.size := ⟨_, rfl⟩
    rw [← hlo] at HY20
    clear hlo
    obtain ⟨o9, n9, a9, b9', c9, d9, e9, f9, hk9, hm9, hv9⟩ := HX20.out
    have hcr := right_v (HL.out.below HB20.out).rows hv9 HNO.out
    unfold RetW at hcr
    rw [hR] at hcr
    have HCR := Lib.hid hcr
    have HK20 := Lib.hid hk9
    have HZ20 := Lib.hid hv9
    clear hcr hk9 hm9 hv9
    have y0 := HK.blk_cell HK20.out 0
    have y1 := HK.blk_cell HK20.out 1
    have y2 := HK.blk_cell HK20.out 2
    have y3 := HK.blk_cell HK20.out 3
    go_wp2_with (fail)
    go_at_call 15
    with_reducible refine HCR.out.mono ?_
    rintro _ w21 ⟨rfl, hB⟩
    have HB21 := Lib.hid (HB20.out.trans (hB.mono HB20.out.size))
    clear y0 y1 y2 y3
    have hk := (hB.block _ (HK.blk_lt HK20.out)).trans HK20.out
    have hg := (hB.block _ (HK.blk_lt HG20.out)).trans HG20.out
    have hcs := same_v (HY20.out.up hB) (HZ20.out.up hB) (by have := HNO.out; omega)
    unfold RetY at hcs
    have HCS := Lib.hid hcs
    have y0 := HK.blk_cell hk 0
    have y1 := HK.blk_cell hk 1
    have y2 := HK.blk_cell hk 2
    have y3 := HK.blk_cell hk 3
    have z0 := HK.blk_cell hg 0
    have z1 := HK.blk_cell hg 1
    have z2 := HK.blk_cell hg 2
    have z3 := HK.blk_cell hg 3
    clear hcs hB hk hg
    go_wp2_with (fail)
    go_at_call 16
    with_reducible refine HCS.out.mono ?_
    rintro _ w22 ⟨rfl, hB⟩
    have HB22 := Lib.hid (HB21.out.trans (hB.mono HB21.out.size))
    clear hB
    go_wp2_with (fail)
    go_ret
    exact ⟨rfl, HB22.out⟩
  · clear HFW
    have hr : formA (.ok fw) = .bad 0 3 := by simp [formA, hR]
    have hfo := (form_out w18 (HL.out.below HB18.out) st (by have := HST.out; omega) (r := .ok fw) HRD.out).mono (R' := fun E W' => Below w18.heap.size w18 W' ∧ ∃ (o8 : Int) (nm : ByteArray) (aa : Option Addr) (an ac : Nat) (sa : Option Addr) (sn sc : Nat), E = .returned (.tuple #[.agg #[.int .u8 o8, .string nm, .slice aa an ac, .slice sa sn sc], .int .i64 0, .int .i64 3]) ∧ FmV W' w18.heap.size (.mk 0 ⟨#[]⟩ [] []) (.agg #[.int .u8 o8, .string nm, .slice aa an ac, .slice sa sn sc])) fun E W' h => by rw [hr] at h; exact h
    have HFO := Lib.hid hfo
    clear hfo hr
    go_wp2_with (fail)
    go_at_call 13
    with_reducible refine HFO.out.mono ?_
    rintro _ w19 ⟨hB, o8, n8, a8, b8, c8, d8, e8, f8, rfl, hv⟩
    have HG20 := Lib.hid (HK.blk_new w19 (.cells #[.int .u8 o8, .string n8, .slice a8 b8 c8, .slice d8 e8 f8] 25))
    have HY20 := Lib.hid (hv.up (bl_al9 (.cells #[.int .u8 o8, .string n8, .slice a8 b8 c8, .slice d8 e8 f8] 25)))
    have HX20 := Lib.hid ((HX18.out.up hB).up (bl_al9 (.cells #[.int .u8 o8, .string n8, .slice a8 b8 c8, .slice d8 e8 f8] 25)))
    have HB20 := Lib.hid ((HB18.out.trans (hB.mono HB18.out.size)).alloc (HB18.out.trans (hB.mono HB18.out.size)).size (.cells #[.int .u8 o8, .string n8, .slice a8 b8 c8, .slice d8 e8 f8] 25))
    clear hB hv HX18
    go_upto_region 16 with (fail)
    obtain ⟨b24, hb24⟩ : ∃ b, b = w19.heap.size := ⟨_, rfl⟩
    rw [← hb24] at HG20 ⊢
    obtain ⟨w20, hw20⟩ : ∃ x, x = w19.alloc (.cells #[.int .u8 o8, .string n8, .slice a8 b8 c8, .slice d8 e8 f8] 25) := ⟨_, rfl⟩
    rw [← hw20] at HG20 HY20 HX20 HB20 ⊢
    clear hw20 hb24
    obtain ⟨lo, hlo⟩ : ∃ x, x = w18.heap.size := ⟨_, rfl⟩
    rw [← hlo] at HY20
    clear hlo
    obtain ⟨o9, n9, a9, b9', c9, d9, e9, f9, hk9, hm9, hv9⟩ := HX20.out
    have hcr := right_v (HL.out.below HB20.out).rows hv9 HNO.out
    unfold RetW at hcr
    rw [(by simpa using hR : rightF fw = false)] at hcr
    have HCR := Lib.hid hcr
    have HK20 := Lib.hid hk9
    have HZ20 := Lib.hid hv9
    clear hcr hk9 hm9 hv9
    have y0 := HK.blk_cell HK20.out 0
    have y1 := HK.blk_cell HK20.out 1
    have y2 := HK.blk_cell HK20.out 2
    have y3 := HK.blk_cell HK20.out 3
    go_wp2_with (fail)
    go_at_call 15
    with_reducible refine HCR.out.mono ?_
    rintro _ w21 ⟨rfl, hB⟩
    have HB21 := Lib.hid (HB20.out.trans (hB.mono HB20.out.size))
    clear y0 y1 y2 y3
    clear hB
    go_wp2_with (fail)
    go_ret
    exact ⟨rfl, HB21.out⟩
set_option maxRecDepth 100000 in
set_option maxHeartbeats 8000000 in
theorem levels_any (w : World) (fa fb fc : Fm) (xa ya xb yb xc yc : SL) (n1 n2 n3 : Nat) (hL : LaidAll w) (ha : InF w fa xa ya) (hb : InF w fb xb yb) (hc : InF w fc xc yc) : Calls Tryd.prog 4 #[fmA fa xa ya, fmA fb xb yb, fmA fc xc yc, .int .u8 (n1 : Int), .int .u8 (n2 : Int), .int .u8 (n3 : Int)] w (RetOk w) := by
  by_cases hn : ¬ 100 < siF fa 100 ∧ ¬ 100 < siF fb 100 ∧ ¬ 100 < siF fc 100 ∧ rightF fa = true ∧ rightF fb = true ∧ rightF fc = true
  · obtain ⟨da, db, dc, ra, rb, rc⟩ := hn
    have hm : ∀ n : Nat, (n : Int).tmod 5 = ((n % 5 : Nat) : Int) := fun n => by rw [show (5 : Int) = ((5 : Nat) : Int) from rfl, Int.ofNat_tmod]
    exact levels_main w fa fb fc xa ya xb yb xc yc n1 n2 n3 (n1 % 5) (n2 % 5) (n3 % 5) hL ha hb hc (Nat.mod_lt _ (by omega)) (Nat.mod_lt _ (by omega)) (Nat.mod_lt _ (by omega)) (hm _) (hm _) (hm _) da db dc ra rb rc
  · exact levels_skip w fa fb fc xa ya xb yb xc yc n1 n2 n3 hL ha hb hc hn
end Go.Proofs.YtdobflpbkfkmgaaDoor
