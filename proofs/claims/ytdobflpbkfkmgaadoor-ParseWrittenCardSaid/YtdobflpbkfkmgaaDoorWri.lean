/- ParseWritten (3): the walk. -/
import Derived.Test.YtdobflpbkfkmgaaDoorOut
import Derived.Test.YtdobflpbkfkmgaaDoorFuh
import Derived.Test.YtdobflpbkfkmgaaDoorSiz
namespace Go.Proofs.YtdobflpbkfkmgaaDoor
open Go.RowKit Go.HK Go.FR
set_option linter.unusedVariables false
set_option linter.unusedSimpArgs false
set_option linter.unusedSectionVars false
/-- A formula that came in, as a value. -/
def fmA (f : Fm) (a s : SL) : Value := .agg #[.int .u8 (f.op : Int), .string f.name, a.v, s.v]
structure InF (w : World) (f : Fm) (a s : SL) : Prop where
  ta : IsTs (SN w) w a f.args
  ts : IsFs (SN w) w s f.subs
  sz : szF f
  op : f.op < 256
  nm : f.name.size ≤ maxLen
theorem InF.up {w W : World} {f : Fm} {a s : SL} (h : InF w f a s) (hB : Below w.heap.size w W) : InF W f a s := ⟨h.ta.turn (sn_up hB), h.ts.turn (sn_up hB), h.sz, h.op, h.nm⟩
theorem InF.fm {w : World} {f : Fm} {a s : SL} (h : InF w f a s) : FmV w 0 f (fmA f a s) := ⟨a, s, rfl, h.ta.turn fun k hk => ⟨⟨Nat.zero_le _, hk⟩, rfl⟩, h.ts.turn fun k hk => ⟨⟨Nat.zero_le _, hk⟩, rfl⟩, h.op, h.nm⟩
/-- Small of one formula, in a row of its own. -/
theorem small_one {w : World} {f : Fm} {a s : SL} (h : InF w f a s) : Calls Tryd.prog 10 #[.slice (some ⟨w.heap.size, 0, none⟩) 1 1] (w.alloc (.cells #[.int .u8 (f.op : Int), .string f.name, a.v, s.v] 25)) fun e w' => e = .returned (.bool (decide (siFs [f] 500 0 ≤ 500))) ∧ Below w.heap.size w w' := by
  obtain ⟨⟨xa, xn, xc⟩, he, h1⟩ := fs_one (lo := 0) h.fm (Nat.zero_le _)
  simp only [SL.v, Value.slice.injEq] at he
  obtain ⟨rfl, rfl, rfl⟩ := he
  exact (small_call _ ⟨some ⟨w.heap.size, 0, none⟩, 1, 1⟩ [f] (h1.turn fun k hk => ⟨hk.2, rfl⟩) (by simp) ⟨h.sz, by unfold szFs; trivial⟩).mono fun e w' ⟨he, hB⟩ => ⟨he, (bl_al9 _).trans (hB.mono (bl_al9 (W := w) _).size)⟩
set_option maxRecDepth 100000 in
set_option maxHeartbeats 4000000 in
theorem written_skip (w : World) (f : Fm) (a s : SL) (hL : LaidAll w) (hI : InF w f a s) (hn : decide (siFs [f] 500 0 ≤ 500) = false ∨ schF f = false) : Calls Tryd.prog 3 #[fmA f a s] w (RetOk w) := by
  have hsm := fun (W : World) (hB : Below w.heap.size w W) => small_one (hI.up hB)
  have hsc := fun (W : World) (hB : Below w.heap.size w W) => schema_call W f a s (hL.below hB).rows hI.sz (hI.up hB).ta (hI.up hB).ts hI.op hI.nm
  have ha := fun (W : World) (hB : Below w.heap.size w W) => awake_any W (hL.below hB).signs (hL.below hB).levels (hL.below hB).rows
  unfold RetA1 at ha
  have HA := Lib.hid ha
  clear ha
  unfold RetW at hsc
  obtain ⟨b1, hb1⟩ : ∃ b, b = decide (siFs [f] 500 0 ≤ 500) := ⟨_, rfl⟩
  obtain ⟨b2, hb2⟩ : ∃ b, b = schF f := ⟨_, rfl⟩
  rw [← hb1] at hsm hn
  rw [← hb2] at hsc hn
  obtain ⟨op, nm, args, subs⟩ := f
  obtain ⟨aa, an, ac⟩ := a
  obtain ⟨sa, sn, sc⟩ := s
  simp only [fmA, FR.Fm.op, FR.Fm.name, SL.v] at hsm hsc ⊢
  have HSM := Lib.hid hsm
  have HSC := Lib.hid hsc
  have HNN := Lib.hid hn
  clear hsm hsc hL hI hn hb1 hb2
  go_enter Tryd.func3, Tryd.ntmps3
  go_upto_region 1 with (fail)
  obtain ⟨w1, hw1⟩ : ∃ w1, w1 = w.alloc (.cells #[.int .u8 (op : Int), .string nm, .slice aa an ac, .slice sa sn sc] 25) := ⟨_, rfl⟩
  have hB1 : Below w.heap.size w w1 := by rw [hw1]; exact bl_al9 _
  have k1 : w1.heap[w.heap.size]? = some (.cells #[.int .u8 (op : Int), .string nm, .slice aa an ac, .slice sa sn sc] 25 (0, 0)) := by rw [hw1]; exact HK.blk_new _ _
  rw [← hw1]
  have HB1 := Lib.hid hB1
  have HK1 := Lib.hid k1
  clear k1 hw1 hB1
  go_wp2_with (fail)
  go_at_call 9
  with_reducible refine (HA.out _ HB1.out).mono ?_
  rintro _ w2 ⟨rfl, hB⟩
  have hk := (hB.block _ (HK.blk_lt HK1.out)).trans HK1.out
  have x0 := HK.blk_cell hk 0
  have x1 := HK.blk_cell hk 1
  have x2 := HK.blk_cell hk 2
  have x3 := HK.blk_cell hk 3
  have HK2 := Lib.hid hk
  have HB2 := Lib.hid (HB1.out.trans (hB.mono HB1.out.size))
  clear hB hk
  go_wp2_with (fail)
  go_at_call 10
  with_reducible refine (HSM.out _ HB2.out).mono ?_
  rintro _ w3 ⟨rfl, hB⟩
  have hk := (hB.block _ (HK.blk_lt HK2.out)).trans HK2.out
  clear x0 x1 x2 x3
  have x0 := HK.blk_cell hk 0
  have x1 := HK.blk_cell hk 1
  have x2 := HK.blk_cell hk 2
  have x3 := HK.blk_cell hk 3
  have HK3 := Lib.hid hk
  have HB3 := Lib.hid (HB2.out.trans (hB.mono HB2.out.size))
  clear hB hk
  rcases b1 with _ | _
  · go_wp2_with (fail)
    go_ret
    exact ⟨rfl, HB3.out⟩
  · obtain rfl : b2 = false := by rcases HNN.out with h | h; cases h; exact h
    go_wp2_with (fail)
    go_at_call 11
    with_reducible refine (HSC.out _ HB3.out).mono ?_
    rintro _ w4 ⟨rfl, hB⟩
    have HB4 := Lib.hid (HB3.out.trans (hB.mono HB3.out.size))
    clear hB
    go_wp2_with (fail)
    go_ret
    exact ⟨rfl, HB4.out⟩
/-! ### both -/
set_option maxRecDepth 100000 in
set_option maxHeartbeats 8000000 in
theorem written_right (w : World) (f : Fm) (a s : SL) (hL : LaidAll w) (hI : InF w f a s) (h1 : decide (siFs [f] 500 0 ≤ 500) = true) (hS : schF f = true) (hR : rightF f = true) : Calls Tryd.prog 3 #[fmA f a s] w (RetOk w) := by
  have hsm := fun (W : World) (hB : Below w.heap.size w W) => small_one (hI.up hB)
  have hsc := fun (W : World) (hB : Below w.heap.size w W) => schema_call W f a s (hL.below hB).rows hI.sz (hI.up hB).ta (hI.up hB).ts hI.op hI.nm
  have hrc := fun (W : World) (hB : Below w.heap.size w W) => right_call W f a s (hL.below hB).rows hI.sz (hI.up hB).ta (hI.up hB).ts hI.op hI.nm
  have ha := fun (W : World) (hB : Below w.heap.size w W) => awake_any W (hL.below hB).signs (hL.below hB).levels (hL.below hB).rows
  obtain ⟨hg, hn4⟩ := good_of_sch hS
  have hlen := len_F f 1 hg
  obtain ⟨st, hst⟩ : ∃ st, st = mkS (fullF f) := ⟨_, rfl⟩
  have hbs : bys st = fullF f := by rw [hst, bys_mk]
  have hstz : st.size ≤ 12800 := by have : (bys st).length ≤ 12800 := (by rw [hbs]; omega); exact this
  have hfu := fun (W : World) (hB : Below w.heap.size w W) => full_call (D := ⟨40, true⟩) (by decide) f 1 hg W a s (hI.up hB).ta (hI.up hB).ts (by omega)
  rw [← hst] at hfu
  have hm1 := fun (W : World) (hB : Below w.heap.size w W) => means_call W 0 st (by omega) (hL.below hB).signs (hL.below hB).levels (hL.below hB).rows (by rw [hbs]; exact rdF_full (m := true) (b := true) (fun h => h) hg) hS (hI.up hB).fm
  have hm2 := fun (W : World) (hB : Below w.heap.size w W) => means_call W 0 (⟨#[40, 40, 32]⟩ ++ st ++ ⟨#[41, 41]⟩) (by rw [sz_app, sz_app, show (⟨#[40, 40, 32]⟩ : ByteArray).size = 3 from rfl, show (⟨#[41, 41]⟩ : ByteArray).size = 2 from rfl]; omega) (hL.below hB).signs (hL.below hB).levels (hL.below hB).rows (by rw [bysC, bysC, hbs]; exact rdF_brackets hg) hS (hI.up hB).fm
  have hr : formA (.ok f) = .ok f := by simp [formA, hR]
  have hfo := fun (W : World) (hB : Below w.heap.size w W) => (form_out W (hL.below hB) st (by omega) (r := .ok f) (by rw [hbs]; exact rdF_full (m := false) (b := false) (fun h => by cases h) (good_of_right hR).1)).mono (R' := fun E W' => Below W.heap.size W W' ∧ ∃ (o8 : Int) (nm : ByteArray) (aa : Option Addr) (an ac : Nat) (sa : Option Addr) (sn sc : Nat), E = .returned (.tuple #[.agg #[.int .u8 o8, .string nm, .slice aa an ac, .slice sa sn sc], .int .i64 0, .int .i64 0]) ∧ FmV W' W.heap.size f (.agg #[.int .u8 o8, .string nm, .slice aa an ac, .slice sa sn sc])) fun E W' h => by rw [hr] at h; exact h
  rw [h1] at hsm
  rw [hS] at hsc
  rw [hR] at hrc
  unfold RetA1 at ha
  unfold RetW at hsc hrc
  unfold RetY at hm1 hm2
  have HFM := Lib.hid fun (W : World) (hB : Below w.heap.size w W) => (hI.up hB).fm
  have HN4 := Lib.hid hn4
  obtain ⟨op, nm, args, subs⟩ := f
  obtain ⟨aa, an, ac⟩ := a
  obtain ⟨sa, sn, sc⟩ := s
  simp only [fmA, FR.Fm.op, FR.Fm.name, SL.v] at hsm hsc hrc hfu hm1 hm2 HFM ⊢
  have HA := Lib.hid ha
  have HSM := Lib.hid hsm
  have HSC := Lib.hid hsc
  have HRC := Lib.hid hrc
  have HFU := Lib.hid hfu
  have HM1 := Lib.hid hm1
  have HM2 := Lib.hid hm2
  have HFO := Lib.hid hfo
  have HSZ := Lib.hid hstz
  clear ha hsm hsc hrc hfu hm1 hm2 hfo hL hI h1 hS hR hg hn4 hlen hst hbs hstz hr
  go_enter Tryd.func3, Tryd.ntmps3
  go_upto_region 1 with (fail)
  obtain ⟨w1, hw1⟩ : ∃ w1, w1 = w.alloc (.cells #[.int .u8 (op : Int), .string nm, .slice aa an ac, .slice sa sn sc] 25) := ⟨_, rfl⟩
  have hB1 : Below w.heap.size w w1 := by rw [hw1]; exact bl_al9 _
  have k1 : w1.heap[w.heap.size]? = some (.cells #[.int .u8 (op : Int), .string nm, .slice aa an ac, .slice sa sn sc] 25 (0, 0)) := by rw [hw1]; exact HK.blk_new _ _
  rw [← hw1]
  have x0 := HK.blk_cell k1 0
  have x1 := HK.blk_cell k1 1
  have x2 := HK.blk_cell k1 2
  have x3 := HK.blk_cell k1 3
  have HB1 := Lib.hid hB1
  have HK1 := Lib.hid k1
  clear k1 hw1 hB1
  go_wp2_with (fail)
  go_at_call 9
  with_reducible refine (HA.out _ HB1.out).mono ?_
  rintro _ w2 ⟨rfl, hB⟩
  have hk := (hB.block _ (HK.blk_lt HK1.out)).trans HK1.out
  clear x0 x1 x2 x3
  have x0 := HK.blk_cell hk 0
  have x1 := HK.blk_cell hk 1
  have x2 := HK.blk_cell hk 2
  have x3 := HK.blk_cell hk 3
  have HK2 := Lib.hid hk
  have HB2 := Lib.hid (HB1.out.trans (hB.mono HB1.out.size))
  clear hB hk
  go_wp2_with (fail)
  go_at_call 10
  with_reducible refine (HSM.out _ HB2.out).mono ?_
  rintro _ w3 ⟨rfl, hB⟩
  have hk := (hB.block _ (HK.blk_lt HK2.out)).trans HK2.out
  clear x0 x1 x2 x3
  have x0 := HK.blk_cell hk 0
  have x1 := HK.blk_cell hk 1
  have x2 := HK.blk_cell hk 2
  have x3 := HK.blk_cell hk 3
  have HK3 := Lib.hid hk
  have HB3 := Lib.hid (HB2.out.trans (hB.mono HB2.out.size))
  clear hB hk
  go_wp2_with (fail)
  go_at_call 11
  with_reducible refine (HSC.out _ HB3.out).mono ?_
  rintro _ w4 ⟨rfl, hB⟩
  have hk := (hB.block _ (HK.blk_lt HK3.out)).trans HK3.out
  clear x0 x1 x2 x3
  have x0 := HK.blk_cell hk 0
  have x1 := HK.blk_cell hk 1
  have x2 := HK.blk_cell hk 2
  have x3 := HK.blk_cell hk 3
  have HK4 := Lib.hid hk
  have HB4 := Lib.hid (HB3.out.trans (hB.mono HB3.out.size))
  clear hB hk
  go_wp2_with (fail)
  go_at_call 12
  with_reducible refine (HFU.out _ HB4.out).mono ?_
  rintro _ w5 ⟨rfl, hB⟩
  have hk := (hB.block _ (HK.blk_lt HK4.out)).trans HK4.out
  clear x0 x1 x2 x3
  have x0 := HK.blk_cell hk 0
  have x1 := HK.blk_cell hk 1
  have x2 := HK.blk_cell hk 2
  have x3 := HK.blk_cell hk 3
  have HK5 := Lib.hid hk
  have HB5 := Lib.hid (HB4.out.trans (hB.mono HB4.out.size))
  clear hB hk
  go_wp2_with (fail)
  go_at_call 13
  with_reducible refine (HFO.out _ HB5.out).mono ?_
  rintro _ w6 ⟨hB, o8, gn, ga, gm, gc, ha, hm, hc, rfl, hv⟩
  have hk0 := (hB.block _ (HK.blk_lt HK5.out)).trans HK5.out
  have hk := HK.blk_alloc hk0 (.cells #[.int .u8 o8, .string gn, .slice ga gm gc, .slice ha hm hc] 25)
  clear x0 x1 x2 x3
  have x0 := HK.blk_cell hk 0
  have x1 := HK.blk_cell hk 1
  have x2 := HK.blk_cell hk 2
  have x3 := HK.blk_cell hk 3
  have HK6 := Lib.hid hk
  have HB6 := Lib.hid ((HB5.out.trans (hB.mono HB5.out.size)).alloc (HB5.out.trans (hB.mono HB5.out.size)).size (.cells #[.int .u8 o8, .string gn, .slice ga gm gc, .slice ha hm hc] 25))
  have HG7 := Lib.hid (HK.blk_new w6 (.cells #[.int .u8 o8, .string gn, .slice ga gm gc, .slice ha hm hc] 25))
  have HV7 := Lib.hid (hv.up (bl_al9 (.cells #[.int .u8 o8, .string gn, .slice ga gm gc, .slice ha hm hc] 25)))
  clear hB hk hk0 hv
  go_upto_region 7 with (fail)
  obtain ⟨bg, hbg⟩ : ∃ bg, bg = w6.heap.size := ⟨_, rfl⟩
  rw [← hbg] at HG7 ⊢
  obtain ⟨w7, hw7⟩ : ∃ w7, w7 = w6.alloc (.cells #[.int .u8 o8, .string gn, .slice ga gm gc, .slice ha hm hc] 25) := ⟨_, rfl⟩
  rw [← hw7] at HG7 HB6 HV7 HK6 x0 x1 x2 x3 ⊢
  clear hbg hw7
  obtain ⟨lo, hlo⟩ : ∃ lo, lo = w5.heap.size := ⟨_, rfl⟩
  rw [← hlo] at HV7
  clear hlo
  have HK7 := HK6
  have HB7 := HB6
  go_wp2_with (fail)
  go_at_call 14
  with_reducible refine (HM1.out _ HB7.out).mono ?_
  rintro _ w8 ⟨rfl, hB⟩
  have hk := (hB.block _ (HK.blk_lt HK7.out)).trans HK7.out
  clear x0 x1 x2 x3
  have x0 := HK.blk_cell hk 0
  have x1 := HK.blk_cell hk 1
  have x2 := HK.blk_cell hk 2
  have x3 := HK.blk_cell hk 3
  have HK8 := Lib.hid hk
  have HB8 := Lib.hid (HB7.out.trans (hB.mono HB7.out.size))
  have HG8 := Lib.hid ((hB.block _ (HK.blk_lt HG7.out)).trans HG7.out)
  have HV8 := Lib.hid (HV7.out.up hB)
  clear hB hk
  go_wp2_with (fail)
  all_goals first | (exfalso; have h9 := HSZ.out; omega) | skip
  go_at_call 14
  with_reducible refine (HM2.out _ HB8.out).mono ?_
  rintro _ w9 ⟨rfl, hB⟩
  have hk := (hB.block _ (HK.blk_lt HK8.out)).trans HK8.out
  clear x0 x1 x2 x3
  have x0 := HK.blk_cell hk 0
  have x1 := HK.blk_cell hk 1
  have x2 := HK.blk_cell hk 2
  have x3 := HK.blk_cell hk 3
  have HK9 := Lib.hid hk
  have HB9 := Lib.hid (HB8.out.trans (hB.mono HB8.out.size))
  have HG9 := Lib.hid ((hB.block _ (HK.blk_lt HG8.out)).trans HG8.out)
  have HV9 := Lib.hid (HV8.out.up hB)
  clear hB hk
  go_wp2_with (fail)
  go_at_call 15
  with_reducible refine (HRC.out _ HB9.out).mono ?_
  rintro _ w10 ⟨rfl, hB⟩
  have hk := (hB.block _ (HK.blk_lt HK9.out)).trans HK9.out
  clear x0 x1 x2 x3
  have x0 := HK.blk_cell hk 0
  have x1 := HK.blk_cell hk 1
  have x2 := HK.blk_cell hk 2
  have x3 := HK.blk_cell hk 3
  have HK10 := Lib.hid hk
  have HB10 := Lib.hid (HB9.out.trans (hB.mono HB9.out.size))
  have HG10 := Lib.hid ((hB.block _ (HK.blk_lt HG9.out)).trans HG9.out)
  have HV10 := Lib.hid (HV9.out.up hB)
  clear hB hk
  have hcall := same_v HV10.out (HFM.out _ HB10.out) (by have := HN4.out; omega)
  unfold RetY at hcall
  have HCC := Lib.hid hcall
  clear hcall
  have y0 := HK.blk_cell HG10.out 0
  have y1 := HK.blk_cell HG10.out 1
  have y2 := HK.blk_cell HG10.out 2
  have y3 := HK.blk_cell HG10.out 3
  go_wp2_with (fail)
  go_at_call 16
  with_reducible refine HCC.out.mono ?_
  rintro _ w11 ⟨rfl, hB⟩
  have HB11 := Lib.hid (HB10.out.trans (hB.mono HB10.out.size))
  clear hB
  go_wp2_with (fail)
  go_ret
  exact ⟨rfl, HB11.out⟩
set_option maxRecDepth 100000 in
set_option maxHeartbeats 8000000 in
theorem written_not (w : World) (f : Fm) (a s : SL) (hL : LaidAll w) (hI : InF w f a s) (h1 : decide (siFs [f] 500 0 ≤ 500) = true) (hS : schF f = true) {p : Nat} (hR : rightF f = false) (hP : RdF false (fullF f) (.bad p 50)) (hp : (fullF f)[p]? = some 63) : Calls Tryd.prog 3 #[fmA f a s] w (RetOk w) := by
  have hsm := fun (W : World) (hB : Below w.heap.size w W) => small_one (hI.up hB)
  have hsc := fun (W : World) (hB : Below w.heap.size w W) => schema_call W f a s (hL.below hB).rows hI.sz (hI.up hB).ta (hI.up hB).ts hI.op hI.nm
  have hrc := fun (W : World) (hB : Below w.heap.size w W) => right_call W f a s (hL.below hB).rows hI.sz (hI.up hB).ta (hI.up hB).ts hI.op hI.nm
  have ha := fun (W : World) (hB : Below w.heap.size w W) => awake_any W (hL.below hB).signs (hL.below hB).levels (hL.below hB).rows
  obtain ⟨hg, hn4⟩ := good_of_sch hS
  have hlen := len_F f 1 hg
  obtain ⟨st, hst⟩ : ∃ st, st = mkS (fullF f) := ⟨_, rfl⟩
  have hbs : bys st = fullF f := by rw [hst, bys_mk]
  have hstz : st.size ≤ 12800 := by have : (bys st).length ≤ 12800 := (by rw [hbs]; omega); exact this
  have hfu := fun (W : World) (hB : Below w.heap.size w W) => full_call (D := ⟨40, true⟩) (by decide) f 1 hg W a s (hI.up hB).ta (hI.up hB).ts (by omega)
  rw [← hst] at hfu
  have hm1 := fun (W : World) (hB : Below w.heap.size w W) => means_call W 0 st (by omega) (hL.below hB).signs (hL.below hB).levels (hL.below hB).rows (by rw [hbs]; exact rdF_full (m := true) (b := true) (fun h => h) hg) hS (hI.up hB).fm
  have hm2 := fun (W : World) (hB : Below w.heap.size w W) => means_call W 0 (⟨#[40, 40, 32]⟩ ++ st ++ ⟨#[41, 41]⟩) (by rw [sz_app, sz_app, show (⟨#[40, 40, 32]⟩ : ByteArray).size = 3 from rfl, show (⟨#[41, 41]⟩ : ByteArray).size = 2 from rfl]; omega) (hL.below hB).signs (hL.below hB).levels (hL.below hB).rows (by rw [bysC, bysC, hbs]; exact rdF_brackets hg) hS (hI.up hB).fm
  have hfo := fun (W : World) (hB : Below w.heap.size w W) => (form_out W (hL.below hB) st (by omega) (r := .bad p 50) (by rw [hbs]; exact hP)).mono (R' := fun E W' => Below W.heap.size W W' ∧ ∃ (o8 : Int) (nm : ByteArray) (aa : Option Addr) (an ac : Nat) (sa : Option Addr) (sn sc : Nat), E = .returned (.tuple #[.agg #[.int .u8 o8, .string nm, .slice aa an ac, .slice sa sn sc], .int .i64 (p : Int), .int .i64 50]) ∧ FmV W' W.heap.size (.mk 0 ⟨#[]⟩ [] []) (.agg #[.int .u8 o8, .string nm, .slice aa an ac, .slice sa sn sc])) fun E W' h => h
  have hpl : p < st.size := by have : p < (bys st).length := (by rw [hbs]; exact (List.getElem?_eq_some_iff.1 hp).1); exact this
  have hpi : (p : Int) < (st.size : Int) := by omega
  have hpb : (bys st)[p]? = some 63 := by rw [hbs]; exact hp
  have HPL := Lib.hid hpl
  have HQ : Hid ((((st[p]'(HPL.out)).toNat : Int) == 63) = true) := Lib.hid (by
    have h9 : st[p]'(HPL.out) = 63 := by
      have h8 := (List.getElem?_eq_some_iff.1 hpb).2
      rw [← h8]; rfl
    rw [h9]; rfl)
  rw [h1] at hsm
  rw [hS] at hsc
  rw [hR] at hrc
  unfold RetA1 at ha
  unfold RetW at hsc hrc
  unfold RetY at hm1 hm2
  have HFM := Lib.hid fun (W : World) (hB : Below w.heap.size w W) => (hI.up hB).fm
  have HN4 := Lib.hid hn4
  obtain ⟨op, nm, args, subs⟩ := f
  obtain ⟨aa, an, ac⟩ := a
  obtain ⟨sa, sn, sc⟩ := s
  simp only [fmA, FR.Fm.op, FR.Fm.name, SL.v] at hsm hsc hrc hfu hm1 hm2 HFM ⊢
  have HA := Lib.hid ha
  have HSM := Lib.hid hsm
  have HSC := Lib.hid hsc
  have HRC := Lib.hid hrc
  have HFU := Lib.hid hfu
  have HM1 := Lib.hid hm1
  have HM2 := Lib.hid hm2
  have HFO := Lib.hid hfo
  have HSZ := Lib.hid hstz
  clear ha hsm hsc hrc hfu hm1 hm2 hfo hL hI h1 hS hR hg hn4 hlen hst hbs hstz hP hp hpl
  go_enter Tryd.func3, Tryd.ntmps3
  go_upto_region 1 with (fail)
  obtain ⟨w1, hw1⟩ : ∃ w1, w1 = w.alloc (.cells #[.int .u8 (op : Int), .string nm, .slice aa an ac, .slice sa sn sc] 25) := ⟨_, rfl⟩
  have hB1 : Below w.heap.size w w1 := by rw [hw1]; exact bl_al9 _
  have k1 : w1.heap[w.heap.size]? = some (.cells #[.int .u8 (op : Int), .string nm, .slice aa an ac, .slice sa sn sc] 25 (0, 0)) := by rw [hw1]; exact HK.blk_new _ _
  rw [← hw1]
  have x0 := HK.blk_cell k1 0
  have x1 := HK.blk_cell k1 1
  have x2 := HK.blk_cell k1 2
  have x3 := HK.blk_cell k1 3
  have HB1 := Lib.hid hB1
  have HK1 := Lib.hid k1
  clear k1 hw1 hB1
  go_wp2_with (fail)
  go_at_call 9
  with_reducible refine (HA.out _ HB1.out).mono ?_
  rintro _ w2 ⟨rfl, hB⟩
  have hk := (hB.block _ (HK.blk_lt HK1.out)).trans HK1.out
  clear x0 x1 x2 x3
  have x0 := HK.blk_cell hk 0
  have x1 := HK.blk_cell hk 1
  have x2 := HK.blk_cell hk 2
  have x3 := HK.blk_cell hk 3
  have HK2 := Lib.hid hk
  have HB2 := Lib.hid (HB1.out.trans (hB.mono HB1.out.size))
  clear hB hk
  go_wp2_with (fail)
  go_at_call 10
  with_reducible refine (HSM.out _ HB2.out).mono ?_
  rintro _ w3 ⟨rfl, hB⟩
  have hk := (hB.block _ (HK.blk_lt HK2.out)).trans HK2.out
  clear x0 x1 x2 x3
  have x0 := HK.blk_cell hk 0
  have x1 := HK.blk_cell hk 1
  have x2 := HK.blk_cell hk 2
  have x3 := HK.blk_cell hk 3
  have HK3 := Lib.hid hk
  have HB3 := Lib.hid (HB2.out.trans (hB.mono HB2.out.size))
  clear hB hk
  go_wp2_with (fail)
  go_at_call 11
  with_reducible refine (HSC.out _ HB3.out).mono ?_
  rintro _ w4 ⟨rfl, hB⟩
  have hk := (hB.block _ (HK.blk_lt HK3.out)).trans HK3.out
  clear x0 x1 x2 x3
  have x0 := HK.blk_cell hk 0
  have x1 := HK.blk_cell hk 1
  have x2 := HK.blk_cell hk 2
  have x3 := HK.blk_cell hk 3
  have HK4 := Lib.hid hk
  have HB4 := Lib.hid (HB3.out.trans (hB.mono HB3.out.size))
  clear hB hk
  go_wp2_with (fail)
  go_at_call 12
  with_reducible refine (HFU.out _ HB4.out).mono ?_
  rintro _ w5 ⟨rfl, hB⟩
  have hk := (hB.block _ (HK.blk_lt HK4.out)).trans HK4.out
  clear x0 x1 x2 x3
  have x0 := HK.blk_cell hk 0
  have x1 := HK.blk_cell hk 1
  have x2 := HK.blk_cell hk 2
  have x3 := HK.blk_cell hk 3
  have HK5 := Lib.hid hk
  have HB5 := Lib.hid (HB4.out.trans (hB.mono HB4.out.size))
  clear hB hk
  go_wp2_with (fail)
  go_at_call 13
  with_reducible refine (HFO.out _ HB5.out).mono ?_
  rintro _ w6 ⟨hB, o8, gn, ga, gm, gc, ha, hm, hc, rfl, hv⟩
  have hk0 := (hB.block _ (HK.blk_lt HK5.out)).trans HK5.out
  have hk := HK.blk_alloc hk0 (.cells #[.int .u8 o8, .string gn, .slice ga gm gc, .slice ha hm hc] 25)
  clear x0 x1 x2 x3
  have x0 := HK.blk_cell hk 0
  have x1 := HK.blk_cell hk 1
  have x2 := HK.blk_cell hk 2
  have x3 := HK.blk_cell hk 3
  have HK6 := Lib.hid hk
  have HB6 := Lib.hid ((HB5.out.trans (hB.mono HB5.out.size)).alloc (HB5.out.trans (hB.mono HB5.out.size)).size (.cells #[.int .u8 o8, .string gn, .slice ga gm gc, .slice ha hm hc] 25))
  have HG7 := Lib.hid (HK.blk_new w6 (.cells #[.int .u8 o8, .string gn, .slice ga gm gc, .slice ha hm hc] 25))
  have HV7 := Lib.hid (hv.up (bl_al9 (.cells #[.int .u8 o8, .string gn, .slice ga gm gc, .slice ha hm hc] 25)))
  clear hB hk hk0 hv
  go_upto_region 7 with (fail)
  obtain ⟨bg, hbg⟩ : ∃ bg, bg = w6.heap.size := ⟨_, rfl⟩
  rw [← hbg] at HG7 ⊢
  obtain ⟨w7, hw7⟩ : ∃ w7, w7 = w6.alloc (.cells #[.int .u8 o8, .string gn, .slice ga gm gc, .slice ha hm hc] 25) := ⟨_, rfl⟩
  rw [← hw7] at HG7 HB6 HV7 HK6 x0 x1 x2 x3 ⊢
  clear hbg hw7
  obtain ⟨lo, hlo⟩ : ∃ lo, lo = w5.heap.size := ⟨_, rfl⟩
  rw [← hlo] at HV7
  clear hlo
  have HK7 := HK6
  have HB7 := HB6
  go_wp2_with (fail)
  go_at_call 14
  with_reducible refine (HM1.out _ HB7.out).mono ?_
  rintro _ w8 ⟨rfl, hB⟩
  have hk := (hB.block _ (HK.blk_lt HK7.out)).trans HK7.out
  clear x0 x1 x2 x3
  have x0 := HK.blk_cell hk 0
  have x1 := HK.blk_cell hk 1
  have x2 := HK.blk_cell hk 2
  have x3 := HK.blk_cell hk 3
  have HK8 := Lib.hid hk
  have HB8 := Lib.hid (HB7.out.trans (hB.mono HB7.out.size))
  have HG8 := Lib.hid ((hB.block _ (HK.blk_lt HG7.out)).trans HG7.out)
  have HV8 := Lib.hid (HV7.out.up hB)
  clear hB hk
  go_wp2_with (fail)
  all_goals first | (exfalso; have h9 := HSZ.out; omega) | skip
  go_at_call 14
  with_reducible refine (HM2.out _ HB8.out).mono ?_
  rintro _ w9 ⟨rfl, hB⟩
  have hk := (hB.block _ (HK.blk_lt HK8.out)).trans HK8.out
  clear x0 x1 x2 x3
  have x0 := HK.blk_cell hk 0
  have x1 := HK.blk_cell hk 1
  have x2 := HK.blk_cell hk 2
  have x3 := HK.blk_cell hk 3
  have HK9 := Lib.hid hk
  have HB9 := Lib.hid (HB8.out.trans (hB.mono HB8.out.size))
  have HG9 := Lib.hid ((hB.block _ (HK.blk_lt HG8.out)).trans HG8.out)
  have HV9 := Lib.hid (HV8.out.up hB)
  clear hB hk
  go_wp2_with (fail)
  go_at_call 15
  with_reducible refine (HRC.out _ HB9.out).mono ?_
  rintro _ w10 ⟨rfl, hB⟩
  have hk := (hB.block _ (HK.blk_lt HK9.out)).trans HK9.out
  clear x0 x1 x2 x3
  have x0 := HK.blk_cell hk 0
  have x1 := HK.blk_cell hk 1
  have x2 := HK.blk_cell hk 2
  have x3 := HK.blk_cell hk 3
  have HK10 := Lib.hid hk
  have HB10 := Lib.hid (HB9.out.trans (hB.mono HB9.out.size))
  have HG10 := Lib.hid ((hB.block _ (HK.blk_lt HG9.out)).trans HG9.out)
  have HV10 := Lib.hid (HV9.out.up hB)
  clear hB hk
  go_wp2_with (fail)
  go_ret
  refine ⟨?_, HB10.out⟩
  show Ending.returned (Value.bool (((st[p]'(HPL.out)).toNat : Int) == 63)) = _
  rw [HQ.out]
theorem written_any (w : World) (f : Fm) (a s : SL) (hL : LaidAll w) (hI : InF w f a s) : Calls Tryd.prog 3 #[fmA f a s] w (RetOk w) := by
  rcases h1 : decide (siFs [f] 500 0 ≤ 500) with _ | _
  · exact written_skip w f a s hL hI (.inl h1)
  · rcases h2 : schF f with _ | _
    · exact written_skip w f a s hL hI (.inr h2)
    · rcases h3 : rightF f with _ | _
      · obtain ⟨p, hP, hp⟩ := rdF_not h2 (by rw [h3]; decide)
        exact written_not w f a s hL hI h1 h2 h3 hP hp
      · exact written_right w f a s hL hI h1 h2 h3
end Go.Proofs.YtdobflpbkfkmgaaDoor
