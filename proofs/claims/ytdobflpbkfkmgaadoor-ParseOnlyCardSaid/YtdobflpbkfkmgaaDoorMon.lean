/- Parse: Ona Onb Onc in one text (pmerge.py). ParseOnly (7): the walk. | ParseOnly (7): the walk at a text that Lex accepts. pono.py prints this text. | ParseOnly (7) at any string. -/
import Derived.Test.YtdobflpbkfkmgaaDoorOut
import Derived.Test.YtdobflpbkfkmgaaDoorAwc
import Derived.Test.YtdobflpbkfkmgaaDoorPca
import Derived.Test.YtdobflpbkfkmgaaDoorMps
import Derived.Test.YtdobflpbkfkmgaaDoorLaid
namespace Go.Proofs.YtdobflpbkfkmgaaDoor
open Go.RowKit Go.HK Go.FR
set_option linter.unusedVariables false
set_option linter.unusedSimpArgs false
set_option linter.unusedSectionVars false
set_option maxRecDepth 100000 in
set_option maxHeartbeats 4000000 in
theorem only_long (w : World) (s : ByteArray) (hz : s.size ≤ maxLen) (hL : LaidAll w) (hl : 2500 < s.size) : Calls Tryd.prog 7 #[.string s] w (RetOk w) := by
  have HA := Lib.hid (awake_any w hL.signs hL.levels hL.rows)
  unfold RetA1 at HA
  obtain ⟨n, hn⟩ : ∃ n, n = s.size := ⟨_, rfl⟩
  rw [← hn] at hl hz
  have hd : (2500 : Int) < (n : Int) := by omega
  have hn2 : s.size = n := hn.symm
  clear hL hz hl hn
  go_enter Tryd.func7, Tryd.ntmps7
  go_wp2_with (fail)
  go_at_call 9
  with_reducible refine HA.out.mono ?_
  rintro e w1 ⟨rfl, hB⟩
  go_wp2_with (fail)
  go_ret
  exact ⟨rfl, hB⟩
set_option maxRecDepth 100000 in
set_option maxHeartbeats 8000000 in
theorem only_bad (w : World) (s : ByteArray) (hL : LaidAll w) (hl : s.size ≤ 2500) (ts : List Tok) (p : Nat) (e : Int) (hX : LexL 0 (bys s) ts p e) (he : e ≠ 0) : Calls Tryd.prog 7 #[.string s] w (RetOk w) := by
  have HA := Lib.hid (awake_any w hL.signs hL.levels hL.rows)
  unfold RetA1 at HA
  have hx := fun (W : World) (hB : Below w.heap.size w W) => (lex_any W s (by omega) (hL.below hB).signs ts p e hX).mono (R' := fun E W' => E = .returned (.tuple #[.slice none 0 0, .int .i64 p, .int .i64 e]) ∧ Below W.heap.size W W') fun E W' ⟨hB, h⟩ => by
    rcases h with ⟨h0, _⟩ | ⟨_, h⟩
    · exact absurd h0 he
    · exact ⟨h, hB⟩
  have hf := fun (W : World) (hB : Below w.heap.size w W) => form_out W (hL.below hB) s (by omega) (.lexbad (m := false) hX he)
  have hc := fun (W : World) (hB : Below w.heap.size w W) => sch_out W (hL.below hB) s (by omega) (.lexbad (m := true) hX he)
  have ht := fun (W : World) (hB : Below w.heap.size w W) => term_out W (hL.below hB) s (by omega) (.lexbad (m := false) hX he)
  simp only [formA, schA, termA, OutF, OutT, anP, anE] at hf hc ht
  have HX := Lib.hid hx
  have HF := Lib.hid hf
  have HC := Lib.hid hc
  have HT := Lib.hid ht
  obtain ⟨n, hn⟩ : ∃ n, n = s.size := ⟨_, rfl⟩
  rw [← hn] at hl
  have hd : ¬ (2500 : Int) < (n : Int) := by omega
  have hn2 : s.size = n := hn.symm
  have he1 : (e != 0) = true := by simp [he]
  clear hL hl hn hx hf hc ht hX he
  go_enter Tryd.func7, Tryd.ntmps7
  go_wp2_with (fail)
  go_at_call 9
  with_reducible refine HA.out.mono ?_
  rintro _ w1 ⟨rfl, hB⟩
  have HB := Lib.hid hB
  clear hB
  go_wp2_with (fail)
  go_at_call 22
  with_reducible refine (HX.out _ HB.out).mono ?_
  rintro _ w2 ⟨rfl, hB⟩
  have HB := Lib.hid (HB.out.trans (hB.mono HB.out.size))
  clear hB
  go_wp2_with (fail)
  go_at_call 13
  with_reducible refine (HF.out _ HB.out).mono ?_
  rintro _ w3 ⟨hB, a0, a1, a2, a3, a4, a5, a6, a7, rfl, _⟩
  have HB := Lib.hid ((HB.out.trans (hB.mono HB.out.size)).alloc (HB.out.trans (hB.mono HB.out.size)).size (.cells #[.int .u8 a0, .string a1, .slice a2 a3 a4, .slice a5 a6 a7] 25))
  clear hB
  go_wp2_with (fail)
  go_at_call 21
  with_reducible refine (HC.out _ HB.out).mono ?_
  rintro _ w4 ⟨hB, b0, b1, b2, b3, b4, b5, b6, b7, rfl, _⟩
  have HB := Lib.hid ((HB.out.trans (hB.mono HB.out.size)).alloc (HB.out.trans (hB.mono HB.out.size)).size (.cells #[.int .u8 b0, .string b1, .slice b2 b3 b4, .slice b5 b6 b7] 25))
  clear hB
  go_wp2_with (fail)
  go_at_call 25
  with_reducible refine (HT.out _ HB.out).mono ?_
  rintro _ w5 ⟨hB, c0, c1, c2, c3, c4, rfl, _⟩
  have HB := Lib.hid ((HB.out.trans (hB.mono HB.out.size)).alloc (HB.out.trans (hB.mono HB.out.size)).size (.cells #[.bool c0, .string c1, .slice c2 c3 c4] 53))
  clear hB
  go_wp2_with (fail)
  go_ret
  exact ⟨rfl, HB.out⟩
end Go.Proofs.YtdobflpbkfkmgaaDoor
namespace Go.Proofs.YtdobflpbkfkmgaaDoor
open Go.RowKit Go.HK Go.FR
set_option linter.unusedVariables false
set_option linter.unusedSimpArgs false
set_option linter.unusedSectionVars false
def mtB (t : Tok) : Bool := decide (t.k = 2)
theorem any_take {l : List Tok} {j : Nat} {t : Tok} (h : l[j]? = some t) : (l.take (j + 1)).any mtB = ((l.take j).any mtB || mtB t) := by
  rw [take_one h, List.any_append]; simp
set_option maxRecDepth 100000 in
set_option maxHeartbeats 8000000 in
theorem only_a (w : World) (s : ByteArray) (hL : LaidAll w) (hl : s.size ≤ 2500) (ts : List Tok) (p : Nat) (hX : LexL 0 (bys s) ts p 0) (hM : ts.any mtB = false) {f1 : Fm} {p1 : Nat} {e1 : Int} {f3 : Tm} {p3 : Nat} {e3 : Int} (he1 : e1 = 0) (he3 : e3 ≠ 0) (hN1 : nodesF f1 ≤ 900000) (hN3 : nodesT f3 ≤ 900000) (hr : rightF f1 = true) (hc : schF f1 = true)
    (h1 : ∀ W, LaidAll W → Calls Tryd.prog 13 #[.string s] W (fun E W' => Below W.heap.size W W' ∧ ∃ (o8 : Int) (nm : ByteArray) (aa : Option Addr) (an ac : Nat) (sa : Option Addr) (sn sc : Nat), E = .returned (.tuple #[.agg #[.int .u8 o8, .string nm, .slice aa an ac, .slice sa sn sc], .int .i64 (p1 : Int), .int .i64 e1]) ∧ FmV W' W.heap.size f1 (.agg #[.int .u8 o8, .string nm, .slice aa an ac, .slice sa sn sc]))) (h2 : ∀ W, LaidAll W → Calls Tryd.prog 21 #[.string s] W (fun E W' => Below W.heap.size W W' ∧ ∃ (o8 : Int) (nm : ByteArray) (aa : Option Addr) (an ac : Nat) (sa : Option Addr) (sn sc : Nat), E = .returned (.tuple #[.agg #[.int .u8 o8, .string nm, .slice aa an ac, .slice sa sn sc], .int .i64 (p1 : Int), .int .i64 e1]) ∧ FmV W' W.heap.size f1 (.agg #[.int .u8 o8, .string nm, .slice aa an ac, .slice sa sn sc]))) (h3 : ∀ W, LaidAll W → Calls Tryd.prog 25 #[.string s] W (fun E W' => Below W.heap.size W W' ∧ ∃ (o8 : Bool) (nm : ByteArray) (aa : Option Addr) (an ac : Nat), E = .returned (.tuple #[.agg #[.bool o8, .string nm, .slice aa an ac], .int .i64 (p3 : Int), .int .i64 e3]) ∧ TmV W' W.heap.size f3 (.agg #[.bool o8, .string nm, .slice aa an ac]))) :
    Calls Tryd.prog 7 #[.string s] w (RetOk w) := by
  have HA := Lib.hid (awake_any w hL.signs hL.levels hL.rows)
  unfold RetA1 at HA
  have hT := tsok_of_lex (l := bys s) (by show s.size ≤ 16384; omega) hX
  have hx := fun (W : World) (hB : Below w.heap.size w W) => lexT_any W s (by omega) (hL.below hB).signs ts p hX
  have HX := Lib.hid hx
  have HF := Lib.hid h1
  have HC := Lib.hid h2
  have HT := Lib.hid h3
  have HL := Lib.hid hL
  have HM := Lib.hid hM
  have HN1 := Lib.hid hN1
  have HN3 := Lib.hid hN3
  have HR := Lib.hid hr
  have HSC := Lib.hid hc
  obtain ⟨n, hn⟩ : ∃ n, n = s.size := ⟨_, rfl⟩
  rw [← hn] at hl
  have hd : ¬ (2500 : Int) < (n : Int) := by omega
  have hn2 : s.size = n := hn.symm
  obtain ⟨nl, hnl⟩ : ∃ nl, nl = ts.length := ⟨_, rfl⟩
  have hnl2 : nl ≤ 20000 := by have := hT.en.len; have := hT.le; omega
  simp only [← hnl] at HX
  have HNL := Lib.hid hnl
  subst he1
  have qe3 : (e3 != 0) = true := by simp [he3]
  have re3 : (e3 == 0) = false := by simp [he3]
  clear he3
  clear hL hl hn hx h1 h2 h3 hX hM hT hnl hN1 hN3 hr hc
  go_enter Tryd.func7, Tryd.ntmps7
  go_wp2_with (fail)
  go_at_call 9
  with_reducible refine HA.out.mono ?_
  rintro _ w1 ⟨rfl, hB⟩
  have HB := Lib.hid hB
  clear hB
  go_wp2_with (fail)
  go_at_call 22
  with_reducible refine (HX.out _ HB.out).mono ?_
  rintro _ w2 ⟨hB, g, c, rfl, hg1, hg2, hTK⟩
  have HB := Lib.hid (HB.out.trans (hB.mono HB.out.size))
  have HTK := Lib.hid hTK
  have HG := Lib.hid hg2
  clear hB hg1 hg2 hTK
  go_wp2_with (fail)
  go_at_call 13
  with_reducible refine (HF.out _ (HL.out.below HB.out)).mono ?_
  rintro _ w3 ⟨hB, a0, a1, a2, a3, a4, a5, a6, a7, rfl, hv⟩
  have HTK := Lib.hid ((HTK.out.turn (hB.block g HG.out)).turn ((bl_al9 (.cells #[.int .u8 a0, .string a1, .slice a2 a3 a4, .slice a5 a6 a7] 25)).block g (Nat.lt_of_lt_of_le HG.out hB.size)))
  have HG := Lib.hid (show g < (w3.alloc (.cells #[.int .u8 a0, .string a1, .slice a2 a3 a4, .slice a5 a6 a7] 25)).heap.size by simp; have := HG.out; have := hB.size; omega)
  have FA := Lib.hid (hv.up (bl_al9 (.cells #[.int .u8 a0, .string a1, .slice a2 a3 a4, .slice a5 a6 a7] 25)))
  have KA := Lib.hid (HK.blk_new w3 (.cells #[.int .u8 a0, .string a1, .slice a2 a3 a4, .slice a5 a6 a7] 25))
  have HB := Lib.hid ((HB.out.trans (hB.mono HB.out.size)).alloc (HB.out.trans (hB.mono HB.out.size)).size (.cells #[.int .u8 a0, .string a1, .slice a2 a3 a4, .slice a5 a6 a7] 25))
  clear hB hv
  go_wp2_with (fail)
  go_at_call 21
  with_reducible refine (HC.out _ (HL.out.below HB.out)).mono ?_
  rintro _ w4 ⟨hB, b0, b1, b2, b3, b4, b5, b6, b7, rfl, hv⟩
  have HTK := Lib.hid ((HTK.out.turn (hB.block g HG.out)).turn ((bl_al9 (.cells #[.int .u8 b0, .string b1, .slice b2 b3 b4, .slice b5 b6 b7] 25)).block g (Nat.lt_of_lt_of_le HG.out hB.size)))
  have HG := Lib.hid (show g < (w4.alloc (.cells #[.int .u8 b0, .string b1, .slice b2 b3 b4, .slice b5 b6 b7] 25)).heap.size by have h1 := HG.out; have h2 := hB.size; simp only [World.size_alloc] at h1 h2 ⊢; omega)
  have FA := Lib.hid ((FA.out.up hB).up (bl_al9 (.cells #[.int .u8 b0, .string b1, .slice b2 b3 b4, .slice b5 b6 b7] 25)))
  have KA := Lib.hid (HK.blk_alloc ((hB.block _ (HK.blk_lt KA.out)).trans KA.out) (.cells #[.int .u8 b0, .string b1, .slice b2 b3 b4, .slice b5 b6 b7] 25))
  have FB := Lib.hid (hv.up (bl_al9 (.cells #[.int .u8 b0, .string b1, .slice b2 b3 b4, .slice b5 b6 b7] 25)))
  have KB := Lib.hid (HK.blk_new w4 (.cells #[.int .u8 b0, .string b1, .slice b2 b3 b4, .slice b5 b6 b7] 25))
  have HB := Lib.hid ((HB.out.trans (hB.mono HB.out.size)).alloc (HB.out.trans (hB.mono HB.out.size)).size (.cells #[.int .u8 b0, .string b1, .slice b2 b3 b4, .slice b5 b6 b7] 25))
  clear hB hv
  go_wp2_with (fail)
  go_at_call 25
  with_reducible refine (HT.out _ (HL.out.below HB.out)).mono ?_
  rintro _ w5 ⟨hB, c0, c1, c2, c3, c4, rfl, hv⟩
  have hTK := (HTK.out.turn (hB.block g HG.out)).turn ((bl_al9 (.cells #[.bool c0, .string c1, .slice c2 c3 c4] 53)).block g (Nat.lt_of_lt_of_le HG.out hB.size))
  have hG := show g < (w5.alloc (.cells #[.bool c0, .string c1, .slice c2 c3 c4] 53)).heap.size by have h1 := HG.out; have h2 := hB.size; simp only [World.size_alloc] at h1 h2 ⊢; omega
  have hFA := (FA.out.up hB).up (bl_al9 (.cells #[.bool c0, .string c1, .slice c2 c3 c4] 53))
  have hKA := HK.blk_alloc ((hB.block _ (HK.blk_lt KA.out)).trans KA.out) (.cells #[.bool c0, .string c1, .slice c2 c3 c4] 53)
  have hFB := (FB.out.up hB).up (bl_al9 (.cells #[.bool c0, .string c1, .slice c2 c3 c4] 53))
  have hKB := HK.blk_alloc ((hB.block _ (HK.blk_lt KB.out)).trans KB.out) (.cells #[.bool c0, .string c1, .slice c2 c3 c4] 53)
  have hFC := hv.up (bl_al9 (.cells #[.bool c0, .string c1, .slice c2 c3 c4] 53))
  have hKC := HK.blk_new w5 (.cells #[.bool c0, .string c1, .slice c2 c3 c4] 53)
  have hBB := (HB.out.trans (hB.mono HB.out.size)).alloc (HB.out.trans (hB.mono HB.out.size)).size (.cells #[.bool c0, .string c1, .slice c2 c3 c4] 53)
  go_wp2_with (fail)
  obtain ⟨w6, hw6⟩ : ∃ w6, w6 = w5.alloc (.cells #[.bool c0, .string c1, .slice c2 c3 c4] 53) := ⟨_, rfl⟩
  rw [← hw6] at hTK hG hFA hKA hFB hKB hFC hKC hBB ⊢
  have HTK := Lib.hid hTK
  have HG := Lib.hid hG
  have FA := Lib.hid hFA
  have KA := Lib.hid hKA
  have FB := Lib.hid hFB
  have KB := Lib.hid hKB
  have FC := Lib.hid hFC
  have KC := Lib.hid hKC
  have HB := Lib.hid hBB
  clear hTK hG hFA hKA hFB hKB hFC hKC hBB hw6 hB hv
  go_loopw [15, 16] (fun m i wr => ∃ j : Nat, j ≤ nl ∧ i = .int .i64 j ∧ m = .bool ((ts.take j).any mtB) ∧ Below w6.heap.size w6 wr) (fun _ i _ => nl - (intOf i).toNat)
  case atStart => exact ⟨0, by omega, rfl, rfl, Below.refl _ _⟩
  case round =>
    obtain ⟨j, hj, rfl, rfl, hB⟩ := hrel
    have HBR := Lib.hid hB
    by_cases hjn : (j : Int) < (nl : Int)
    · have j0 : (0 : Int) ≤ (j : Int) := by omega
      obtain ⟨t, htj⟩ : ∃ t, ts[j]? = some t := ⟨_, List.getElem?_eq_getElem (by rw [← HNL.out]; omega)⟩
      have hc0 := (hB.cell (p := ⟨g, j * 3, none⟩) HG.out).trans (HTK.out.c0 j t htj)
      have hat := any_take htj
      obtain ⟨mj, hmj⟩ : ∃ mj, mj = (ts.take j).any mtB := ⟨_, rfl⟩
      rw [← hmj] at hat ⊢
      obtain ⟨tk, htk⟩ : ∃ tk, tk = t.k := ⟨_, rfl⟩
      rw [← htk] at hc0
      obtain ⟨kb, hkb⟩ : ∃ kb, (tk == 2) = kb := ⟨_, rfl⟩
      have HAT : Hid ((ts.take (j + 1)).any mtB = (mj || kb)) := Lib.hid (by rw [hat, ← hkb, htk]; rfl)
      clear hat hmj htk htj hB
      cases mj
      · go_wp2_with (fail)
        go_roundw
        case rel => exact ⟨j + 1, by omega, by go_num, by rw [HAT.out]; simp, HBR.out⟩
        case measure => simp [intOf]; omega
      · go_wp2_with (fail)
        go_roundw
        case rel => exact ⟨j + 1, by omega, by go_num, by rw [HAT.out]; simp, HBR.out⟩
        case measure => simp [intOf]; omega
    · obtain rfl : j = nl := by omega
      rw [List.take_of_length_le (by rw [HNL.out]; exact Nat.le_refl _), HM.out]
      obtain ⟨W0, hW0⟩ : ∃ W0 : World, W0 = wr := ⟨_, rfl⟩
      have hKA := (hB.block _ (HK.blk_lt KA.out)).trans KA.out
      have hKB := (hB.block _ (HK.blk_lt KB.out)).trans KB.out
      have hKC := (hB.block _ (HK.blk_lt KC.out)).trans KC.out
      have x0 := HK.blk_cell hKA 0
      have y0 := HK.blk_cell hKB 0
      have x1 := HK.blk_cell hKA 1
      have y1 := HK.blk_cell hKB 1
      have x2 := HK.blk_cell hKA 2
      have y2 := HK.blk_cell hKB 2
      have x3 := HK.blk_cell hKA 3
      have y3 := HK.blk_cell hKB 3
      have z0 := HK.blk_cell hKC 0
      have z1 := HK.blk_cell hKC 1
      have z2 := HK.blk_cell hKC 2
      have KA := Lib.hid hKA
      have KB := Lib.hid hKB
      have KC := Lib.hid hKC
      have FA := Lib.hid (FA.out.up hB)
      have FB := Lib.hid (FB.out.up hB)
      have FC := Lib.hid (FC.out.up hB)
      have HB := Lib.hid (HB.out.trans (hB.mono HB.out.size))
      clear hKA hKB hKC hB hW0
      have hcall := same_v FA.out FB.out (show nodesF f1 ≤ 1000000 by have := HN1.out; omega)
      unfold RetY at hcall
      have HCC := Lib.hid hcall
      clear hcall
      go_wp2_with (fail)
      go_at_call 16
      with_reducible refine HCC.out.mono ?_
      clear x0 y0 x1 y1 x2 y2 x3 y3 z0 z1 z2
      rintro _ v0 ⟨rfl, hB⟩
      have hKA := (hB.block _ (HK.blk_lt KA.out)).trans KA.out
      have hKB := (hB.block _ (HK.blk_lt KB.out)).trans KB.out
      have hKC := (hB.block _ (HK.blk_lt KC.out)).trans KC.out
      have x0 := HK.blk_cell hKA 0
      have y0 := HK.blk_cell hKB 0
      have x1 := HK.blk_cell hKA 1
      have y1 := HK.blk_cell hKB 1
      have x2 := HK.blk_cell hKA 2
      have y2 := HK.blk_cell hKB 2
      have x3 := HK.blk_cell hKA 3
      have y3 := HK.blk_cell hKB 3
      have z0 := HK.blk_cell hKC 0
      have z1 := HK.blk_cell hKC 1
      have z2 := HK.blk_cell hKC 2
      have KA := Lib.hid hKA
      have KB := Lib.hid hKB
      have KC := Lib.hid hKC
      have FA := Lib.hid (FA.out.up hB)
      have FB := Lib.hid (FB.out.up hB)
      have FC := Lib.hid (FC.out.up hB)
      have HB := Lib.hid (HB.out.trans (hB.mono HB.out.size))
      clear hKA hKB hKC hB
      have hcall := right_v (HL.out.below HB.out).rows FA.out HN1.out
      rw [HR.out] at hcall
      unfold RetW at hcall
      have HCC := Lib.hid hcall
      clear hcall
      go_wp2_with (fail)
      go_at_call 15
      with_reducible refine HCC.out.mono ?_
      clear x0 y0 x1 y1 x2 y2 x3 y3 z0 z1 z2
      rintro _ v1 ⟨rfl, hB⟩
      have hKA := (hB.block _ (HK.blk_lt KA.out)).trans KA.out
      have hKB := (hB.block _ (HK.blk_lt KB.out)).trans KB.out
      have hKC := (hB.block _ (HK.blk_lt KC.out)).trans KC.out
      have x0 := HK.blk_cell hKA 0
      have y0 := HK.blk_cell hKB 0
      have x1 := HK.blk_cell hKA 1
      have y1 := HK.blk_cell hKB 1
      have x2 := HK.blk_cell hKA 2
      have y2 := HK.blk_cell hKB 2
      have x3 := HK.blk_cell hKA 3
      have y3 := HK.blk_cell hKB 3
      have z0 := HK.blk_cell hKC 0
      have z1 := HK.blk_cell hKC 1
      have z2 := HK.blk_cell hKC 2
      have KA := Lib.hid hKA
      have KB := Lib.hid hKB
      have KC := Lib.hid hKC
      have FA := Lib.hid (FA.out.up hB)
      have FB := Lib.hid (FB.out.up hB)
      have FC := Lib.hid (FC.out.up hB)
      have HB := Lib.hid (HB.out.trans (hB.mono HB.out.size))
      clear hKA hKB hKC hB
      have hcall := sch_v (HL.out.below HB.out).rows FB.out HN1.out
      rw [HSC.out] at hcall
      unfold RetW at hcall
      have HCC := Lib.hid hcall
      clear hcall
      go_wp2_with (fail)
      go_at_call 11
      with_reducible refine HCC.out.mono ?_
      clear x0 y0 x1 y1 x2 y2 x3 y3 z0 z1 z2
      rintro _ v2 ⟨rfl, hB⟩
      have hKA := (hB.block _ (HK.blk_lt KA.out)).trans KA.out
      have hKB := (hB.block _ (HK.blk_lt KB.out)).trans KB.out
      have hKC := (hB.block _ (HK.blk_lt KC.out)).trans KC.out
      have x0 := HK.blk_cell hKA 0
      have y0 := HK.blk_cell hKB 0
      have x1 := HK.blk_cell hKA 1
      have y1 := HK.blk_cell hKB 1
      have x2 := HK.blk_cell hKA 2
      have y2 := HK.blk_cell hKB 2
      have x3 := HK.blk_cell hKA 3
      have y3 := HK.blk_cell hKB 3
      have z0 := HK.blk_cell hKC 0
      have z1 := HK.blk_cell hKC 1
      have z2 := HK.blk_cell hKC 2
      have KA := Lib.hid hKA
      have KB := Lib.hid hKB
      have KC := Lib.hid hKC
      have FA := Lib.hid (FA.out.up hB)
      have FB := Lib.hid (FB.out.up hB)
      have FC := Lib.hid (FC.out.up hB)
      have HB := Lib.hid (HB.out.trans (hB.mono HB.out.size))
      clear hKA hKB hKC hB
      go_wp2_with (fail)
      go_ret
      exact ⟨rfl, HB.out⟩
set_option maxRecDepth 100000 in
set_option maxHeartbeats 8000000 in
theorem only_b (w : World) (s : ByteArray) (hL : LaidAll w) (hl : s.size ≤ 2500) (ts : List Tok) (p : Nat) (hX : LexL 0 (bys s) ts p 0) (hM : ts.any mtB = false) {f1 : Fm} {p1 : Nat} {e1 : Int} {f3 : Tm} {p3 : Nat} {e3 : Int} (he1 : e1 ≠ 0) (he3 : e3 = 0) (hN1 : nodesF f1 ≤ 900000) (hN3 : nodesT f3 ≤ 900000) (ht : rightT f3 = true)
    (h1 : ∀ W, LaidAll W → Calls Tryd.prog 13 #[.string s] W (fun E W' => Below W.heap.size W W' ∧ ∃ (o8 : Int) (nm : ByteArray) (aa : Option Addr) (an ac : Nat) (sa : Option Addr) (sn sc : Nat), E = .returned (.tuple #[.agg #[.int .u8 o8, .string nm, .slice aa an ac, .slice sa sn sc], .int .i64 (p1 : Int), .int .i64 e1]) ∧ FmV W' W.heap.size f1 (.agg #[.int .u8 o8, .string nm, .slice aa an ac, .slice sa sn sc]))) (h2 : ∀ W, LaidAll W → Calls Tryd.prog 21 #[.string s] W (fun E W' => Below W.heap.size W W' ∧ ∃ (o8 : Int) (nm : ByteArray) (aa : Option Addr) (an ac : Nat) (sa : Option Addr) (sn sc : Nat), E = .returned (.tuple #[.agg #[.int .u8 o8, .string nm, .slice aa an ac, .slice sa sn sc], .int .i64 (p1 : Int), .int .i64 e1]) ∧ FmV W' W.heap.size f1 (.agg #[.int .u8 o8, .string nm, .slice aa an ac, .slice sa sn sc]))) (h3 : ∀ W, LaidAll W → Calls Tryd.prog 25 #[.string s] W (fun E W' => Below W.heap.size W W' ∧ ∃ (o8 : Bool) (nm : ByteArray) (aa : Option Addr) (an ac : Nat), E = .returned (.tuple #[.agg #[.bool o8, .string nm, .slice aa an ac], .int .i64 (p3 : Int), .int .i64 e3]) ∧ TmV W' W.heap.size f3 (.agg #[.bool o8, .string nm, .slice aa an ac]))) :
    Calls Tryd.prog 7 #[.string s] w (RetOk w) := by
  have HA := Lib.hid (awake_any w hL.signs hL.levels hL.rows)
  unfold RetA1 at HA
  have hT := tsok_of_lex (l := bys s) (by show s.size ≤ 16384; omega) hX
  have hx := fun (W : World) (hB : Below w.heap.size w W) => lexT_any W s (by omega) (hL.below hB).signs ts p hX
  have HX := Lib.hid hx
  have HF := Lib.hid h1
  have HC := Lib.hid h2
  have HT := Lib.hid h3
  have HL := Lib.hid hL
  have HM := Lib.hid hM
  have HN1 := Lib.hid hN1
  have HN3 := Lib.hid hN3
  have HRT := Lib.hid ht
  obtain ⟨n, hn⟩ : ∃ n, n = s.size := ⟨_, rfl⟩
  rw [← hn] at hl
  have hd : ¬ (2500 : Int) < (n : Int) := by omega
  have hn2 : s.size = n := hn.symm
  obtain ⟨nl, hnl⟩ : ∃ nl, nl = ts.length := ⟨_, rfl⟩
  have hnl2 : nl ≤ 20000 := by have := hT.en.len; have := hT.le; omega
  simp only [← hnl] at HX
  have HNL := Lib.hid hnl
  have qe1 : (e1 != 0) = true := by simp [he1]
  have re1 : (e1 == 0) = false := by simp [he1]
  clear he1
  subst he3
  clear hL hl hn hx h1 h2 h3 hX hM hT hnl hN1 hN3 ht
  go_enter Tryd.func7, Tryd.ntmps7
  go_wp2_with (fail)
  go_at_call 9
  with_reducible refine HA.out.mono ?_
  rintro _ w1 ⟨rfl, hB⟩
  have HB := Lib.hid hB
  clear hB
  go_wp2_with (fail)
  go_at_call 22
  with_reducible refine (HX.out _ HB.out).mono ?_
  rintro _ w2 ⟨hB, g, c, rfl, hg1, hg2, hTK⟩
  have HB := Lib.hid (HB.out.trans (hB.mono HB.out.size))
  have HTK := Lib.hid hTK
  have HG := Lib.hid hg2
  clear hB hg1 hg2 hTK
  go_wp2_with (fail)
  go_at_call 13
  with_reducible refine (HF.out _ (HL.out.below HB.out)).mono ?_
  rintro _ w3 ⟨hB, a0, a1, a2, a3, a4, a5, a6, a7, rfl, hv⟩
  have HTK := Lib.hid ((HTK.out.turn (hB.block g HG.out)).turn ((bl_al9 (.cells #[.int .u8 a0, .string a1, .slice a2 a3 a4, .slice a5 a6 a7] 25)).block g (Nat.lt_of_lt_of_le HG.out hB.size)))
  have HG := Lib.hid (show g < (w3.alloc (.cells #[.int .u8 a0, .string a1, .slice a2 a3 a4, .slice a5 a6 a7] 25)).heap.size by simp; have := HG.out; have := hB.size; omega)
  have FA := Lib.hid (hv.up (bl_al9 (.cells #[.int .u8 a0, .string a1, .slice a2 a3 a4, .slice a5 a6 a7] 25)))
  have KA := Lib.hid (HK.blk_new w3 (.cells #[.int .u8 a0, .string a1, .slice a2 a3 a4, .slice a5 a6 a7] 25))
  have HB := Lib.hid ((HB.out.trans (hB.mono HB.out.size)).alloc (HB.out.trans (hB.mono HB.out.size)).size (.cells #[.int .u8 a0, .string a1, .slice a2 a3 a4, .slice a5 a6 a7] 25))
  clear hB hv
  go_wp2_with (fail)
  go_at_call 21
  with_reducible refine (HC.out _ (HL.out.below HB.out)).mono ?_
  rintro _ w4 ⟨hB, b0, b1, b2, b3, b4, b5, b6, b7, rfl, hv⟩
  have HTK := Lib.hid ((HTK.out.turn (hB.block g HG.out)).turn ((bl_al9 (.cells #[.int .u8 b0, .string b1, .slice b2 b3 b4, .slice b5 b6 b7] 25)).block g (Nat.lt_of_lt_of_le HG.out hB.size)))
  have HG := Lib.hid (show g < (w4.alloc (.cells #[.int .u8 b0, .string b1, .slice b2 b3 b4, .slice b5 b6 b7] 25)).heap.size by have h1 := HG.out; have h2 := hB.size; simp only [World.size_alloc] at h1 h2 ⊢; omega)
  have FA := Lib.hid ((FA.out.up hB).up (bl_al9 (.cells #[.int .u8 b0, .string b1, .slice b2 b3 b4, .slice b5 b6 b7] 25)))
  have KA := Lib.hid (HK.blk_alloc ((hB.block _ (HK.blk_lt KA.out)).trans KA.out) (.cells #[.int .u8 b0, .string b1, .slice b2 b3 b4, .slice b5 b6 b7] 25))
  have FB := Lib.hid (hv.up (bl_al9 (.cells #[.int .u8 b0, .string b1, .slice b2 b3 b4, .slice b5 b6 b7] 25)))
  have KB := Lib.hid (HK.blk_new w4 (.cells #[.int .u8 b0, .string b1, .slice b2 b3 b4, .slice b5 b6 b7] 25))
  have HB := Lib.hid ((HB.out.trans (hB.mono HB.out.size)).alloc (HB.out.trans (hB.mono HB.out.size)).size (.cells #[.int .u8 b0, .string b1, .slice b2 b3 b4, .slice b5 b6 b7] 25))
  clear hB hv
  go_wp2_with (fail)
  go_at_call 25
  with_reducible refine (HT.out _ (HL.out.below HB.out)).mono ?_
  rintro _ w5 ⟨hB, c0, c1, c2, c3, c4, rfl, hv⟩
  have hTK := (HTK.out.turn (hB.block g HG.out)).turn ((bl_al9 (.cells #[.bool c0, .string c1, .slice c2 c3 c4] 53)).block g (Nat.lt_of_lt_of_le HG.out hB.size))
  have hG := show g < (w5.alloc (.cells #[.bool c0, .string c1, .slice c2 c3 c4] 53)).heap.size by have h1 := HG.out; have h2 := hB.size; simp only [World.size_alloc] at h1 h2 ⊢; omega
  have hFA := (FA.out.up hB).up (bl_al9 (.cells #[.bool c0, .string c1, .slice c2 c3 c4] 53))
  have hKA := HK.blk_alloc ((hB.block _ (HK.blk_lt KA.out)).trans KA.out) (.cells #[.bool c0, .string c1, .slice c2 c3 c4] 53)
  have hFB := (FB.out.up hB).up (bl_al9 (.cells #[.bool c0, .string c1, .slice c2 c3 c4] 53))
  have hKB := HK.blk_alloc ((hB.block _ (HK.blk_lt KB.out)).trans KB.out) (.cells #[.bool c0, .string c1, .slice c2 c3 c4] 53)
  have hFC := hv.up (bl_al9 (.cells #[.bool c0, .string c1, .slice c2 c3 c4] 53))
  have hKC := HK.blk_new w5 (.cells #[.bool c0, .string c1, .slice c2 c3 c4] 53)
  have hBB := (HB.out.trans (hB.mono HB.out.size)).alloc (HB.out.trans (hB.mono HB.out.size)).size (.cells #[.bool c0, .string c1, .slice c2 c3 c4] 53)
  go_wp2_with (fail)
  obtain ⟨w6, hw6⟩ : ∃ w6, w6 = w5.alloc (.cells #[.bool c0, .string c1, .slice c2 c3 c4] 53) := ⟨_, rfl⟩
  rw [← hw6] at hTK hG hFA hKA hFB hKB hFC hKC hBB ⊢
  have HTK := Lib.hid hTK
  have HG := Lib.hid hG
  have FA := Lib.hid hFA
  have KA := Lib.hid hKA
  have FB := Lib.hid hFB
  have KB := Lib.hid hKB
  have FC := Lib.hid hFC
  have KC := Lib.hid hKC
  have HB := Lib.hid hBB
  clear hTK hG hFA hKA hFB hKB hFC hKC hBB hw6 hB hv
  go_loopw [15, 16] (fun m i wr => ∃ j : Nat, j ≤ nl ∧ i = .int .i64 j ∧ m = .bool ((ts.take j).any mtB) ∧ Below w6.heap.size w6 wr) (fun _ i _ => nl - (intOf i).toNat)
  case atStart => exact ⟨0, by omega, rfl, rfl, Below.refl _ _⟩
  case round =>
    obtain ⟨j, hj, rfl, rfl, hB⟩ := hrel
    have HBR := Lib.hid hB
    by_cases hjn : (j : Int) < (nl : Int)
    · have j0 : (0 : Int) ≤ (j : Int) := by omega
      obtain ⟨t, htj⟩ : ∃ t, ts[j]? = some t := ⟨_, List.getElem?_eq_getElem (by rw [← HNL.out]; omega)⟩
      have hc0 := (hB.cell (p := ⟨g, j * 3, none⟩) HG.out).trans (HTK.out.c0 j t htj)
      have hat := any_take htj
      obtain ⟨mj, hmj⟩ : ∃ mj, mj = (ts.take j).any mtB := ⟨_, rfl⟩
      rw [← hmj] at hat ⊢
      obtain ⟨tk, htk⟩ : ∃ tk, tk = t.k := ⟨_, rfl⟩
      rw [← htk] at hc0
      obtain ⟨kb, hkb⟩ : ∃ kb, (tk == 2) = kb := ⟨_, rfl⟩
      have HAT : Hid ((ts.take (j + 1)).any mtB = (mj || kb)) := Lib.hid (by rw [hat, ← hkb, htk]; rfl)
      clear hat hmj htk htj hB
      cases mj
      · go_wp2_with (fail)
        go_roundw
        case rel => exact ⟨j + 1, by omega, by go_num, by rw [HAT.out]; simp, HBR.out⟩
        case measure => simp [intOf]; omega
      · go_wp2_with (fail)
        go_roundw
        case rel => exact ⟨j + 1, by omega, by go_num, by rw [HAT.out]; simp, HBR.out⟩
        case measure => simp [intOf]; omega
    · obtain rfl : j = nl := by omega
      rw [List.take_of_length_le (by rw [HNL.out]; exact Nat.le_refl _), HM.out]
      obtain ⟨W0, hW0⟩ : ∃ W0 : World, W0 = wr := ⟨_, rfl⟩
      have hKA := (hB.block _ (HK.blk_lt KA.out)).trans KA.out
      have hKB := (hB.block _ (HK.blk_lt KB.out)).trans KB.out
      have hKC := (hB.block _ (HK.blk_lt KC.out)).trans KC.out
      have x0 := HK.blk_cell hKA 0
      have y0 := HK.blk_cell hKB 0
      have x1 := HK.blk_cell hKA 1
      have y1 := HK.blk_cell hKB 1
      have x2 := HK.blk_cell hKA 2
      have y2 := HK.blk_cell hKB 2
      have x3 := HK.blk_cell hKA 3
      have y3 := HK.blk_cell hKB 3
      have z0 := HK.blk_cell hKC 0
      have z1 := HK.blk_cell hKC 1
      have z2 := HK.blk_cell hKC 2
      have KA := Lib.hid hKA
      have KB := Lib.hid hKB
      have KC := Lib.hid hKC
      have FA := Lib.hid (FA.out.up hB)
      have FB := Lib.hid (FB.out.up hB)
      have FC := Lib.hid (FC.out.up hB)
      have HB := Lib.hid (HB.out.trans (hB.mono HB.out.size))
      clear hKA hKB hKC hB hW0
      have hcall := same_v FA.out FB.out (show nodesF f1 ≤ 1000000 by have := HN1.out; omega)
      unfold RetY at hcall
      have HCC := Lib.hid hcall
      clear hcall
      go_wp2_with (fail)
      go_at_call 16
      with_reducible refine HCC.out.mono ?_
      clear x0 y0 x1 y1 x2 y2 x3 y3 z0 z1 z2
      rintro _ v0 ⟨rfl, hB⟩
      have hKA := (hB.block _ (HK.blk_lt KA.out)).trans KA.out
      have hKB := (hB.block _ (HK.blk_lt KB.out)).trans KB.out
      have hKC := (hB.block _ (HK.blk_lt KC.out)).trans KC.out
      have x0 := HK.blk_cell hKA 0
      have y0 := HK.blk_cell hKB 0
      have x1 := HK.blk_cell hKA 1
      have y1 := HK.blk_cell hKB 1
      have x2 := HK.blk_cell hKA 2
      have y2 := HK.blk_cell hKB 2
      have x3 := HK.blk_cell hKA 3
      have y3 := HK.blk_cell hKB 3
      have z0 := HK.blk_cell hKC 0
      have z1 := HK.blk_cell hKC 1
      have z2 := HK.blk_cell hKC 2
      have KA := Lib.hid hKA
      have KB := Lib.hid hKB
      have KC := Lib.hid hKC
      have FA := Lib.hid (FA.out.up hB)
      have FB := Lib.hid (FB.out.up hB)
      have FC := Lib.hid (FC.out.up hB)
      have HB := Lib.hid (HB.out.trans (hB.mono HB.out.size))
      clear hKA hKB hKC hB
      have hcall := termr_v FC.out HN3.out
      rw [HRT.out] at hcall
      unfold RetW at hcall
      have HCC := Lib.hid hcall
      clear hcall
      go_wp2_with (fail)
      go_at_call 26
      with_reducible refine HCC.out.mono ?_
      clear x0 y0 x1 y1 x2 y2 x3 y3 z0 z1 z2
      rintro _ v1 ⟨rfl, hB⟩
      have hKA := (hB.block _ (HK.blk_lt KA.out)).trans KA.out
      have hKB := (hB.block _ (HK.blk_lt KB.out)).trans KB.out
      have hKC := (hB.block _ (HK.blk_lt KC.out)).trans KC.out
      have x0 := HK.blk_cell hKA 0
      have y0 := HK.blk_cell hKB 0
      have x1 := HK.blk_cell hKA 1
      have y1 := HK.blk_cell hKB 1
      have x2 := HK.blk_cell hKA 2
      have y2 := HK.blk_cell hKB 2
      have x3 := HK.blk_cell hKA 3
      have y3 := HK.blk_cell hKB 3
      have z0 := HK.blk_cell hKC 0
      have z1 := HK.blk_cell hKC 1
      have z2 := HK.blk_cell hKC 2
      have KA := Lib.hid hKA
      have KB := Lib.hid hKB
      have KC := Lib.hid hKC
      have FA := Lib.hid (FA.out.up hB)
      have FB := Lib.hid (FB.out.up hB)
      have FC := Lib.hid (FC.out.up hB)
      have HB := Lib.hid (HB.out.trans (hB.mono HB.out.size))
      clear hKA hKB hKC hB
      go_wp2_with (fail)
      go_ret
      exact ⟨rfl, HB.out⟩
set_option maxRecDepth 100000 in
set_option maxHeartbeats 8000000 in
theorem only_c (w : World) (s : ByteArray) (hL : LaidAll w) (hl : s.size ≤ 2500) (ts : List Tok) (p : Nat) (hX : LexL 0 (bys s) ts p 0) (hM : ts.any mtB = false) {f1 : Fm} {p1 : Nat} {e1 : Int} {f3 : Tm} {p3 : Nat} {e3 : Int} (he1 : e1 ≠ 0) (he3 : e3 ≠ 0) (hN1 : nodesF f1 ≤ 900000) (hN3 : nodesT f3 ≤ 900000)
    (h1 : ∀ W, LaidAll W → Calls Tryd.prog 13 #[.string s] W (fun E W' => Below W.heap.size W W' ∧ ∃ (o8 : Int) (nm : ByteArray) (aa : Option Addr) (an ac : Nat) (sa : Option Addr) (sn sc : Nat), E = .returned (.tuple #[.agg #[.int .u8 o8, .string nm, .slice aa an ac, .slice sa sn sc], .int .i64 (p1 : Int), .int .i64 e1]) ∧ FmV W' W.heap.size f1 (.agg #[.int .u8 o8, .string nm, .slice aa an ac, .slice sa sn sc]))) (h2 : ∀ W, LaidAll W → Calls Tryd.prog 21 #[.string s] W (fun E W' => Below W.heap.size W W' ∧ ∃ (o8 : Int) (nm : ByteArray) (aa : Option Addr) (an ac : Nat) (sa : Option Addr) (sn sc : Nat), E = .returned (.tuple #[.agg #[.int .u8 o8, .string nm, .slice aa an ac, .slice sa sn sc], .int .i64 (p1 : Int), .int .i64 e1]) ∧ FmV W' W.heap.size f1 (.agg #[.int .u8 o8, .string nm, .slice aa an ac, .slice sa sn sc]))) (h3 : ∀ W, LaidAll W → Calls Tryd.prog 25 #[.string s] W (fun E W' => Below W.heap.size W W' ∧ ∃ (o8 : Bool) (nm : ByteArray) (aa : Option Addr) (an ac : Nat), E = .returned (.tuple #[.agg #[.bool o8, .string nm, .slice aa an ac], .int .i64 (p3 : Int), .int .i64 e3]) ∧ TmV W' W.heap.size f3 (.agg #[.bool o8, .string nm, .slice aa an ac]))) :
    Calls Tryd.prog 7 #[.string s] w (RetOk w) := by
  have HA := Lib.hid (awake_any w hL.signs hL.levels hL.rows)
  unfold RetA1 at HA
  have hT := tsok_of_lex (l := bys s) (by show s.size ≤ 16384; omega) hX
  have hx := fun (W : World) (hB : Below w.heap.size w W) => lexT_any W s (by omega) (hL.below hB).signs ts p hX
  have HX := Lib.hid hx
  have HF := Lib.hid h1
  have HC := Lib.hid h2
  have HT := Lib.hid h3
  have HL := Lib.hid hL
  have HM := Lib.hid hM
  have HN1 := Lib.hid hN1
  have HN3 := Lib.hid hN3
  obtain ⟨n, hn⟩ : ∃ n, n = s.size := ⟨_, rfl⟩
  rw [← hn] at hl
  have hd : ¬ (2500 : Int) < (n : Int) := by omega
  have hn2 : s.size = n := hn.symm
  obtain ⟨nl, hnl⟩ : ∃ nl, nl = ts.length := ⟨_, rfl⟩
  have hnl2 : nl ≤ 20000 := by have := hT.en.len; have := hT.le; omega
  simp only [← hnl] at HX
  have HNL := Lib.hid hnl
  have qe1 : (e1 != 0) = true := by simp [he1]
  have re1 : (e1 == 0) = false := by simp [he1]
  clear he1
  have qe3 : (e3 != 0) = true := by simp [he3]
  have re3 : (e3 == 0) = false := by simp [he3]
  clear he3
  clear hL hl hn hx h1 h2 h3 hX hM hT hnl hN1 hN3
  go_enter Tryd.func7, Tryd.ntmps7
  go_wp2_with (fail)
  go_at_call 9
  with_reducible refine HA.out.mono ?_
  rintro _ w1 ⟨rfl, hB⟩
  have HB := Lib.hid hB
  clear hB
  go_wp2_with (fail)
  go_at_call 22
  with_reducible refine (HX.out _ HB.out).mono ?_
  rintro _ w2 ⟨hB, g, c, rfl, hg1, hg2, hTK⟩
  have HB := Lib.hid (HB.out.trans (hB.mono HB.out.size))
  have HTK := Lib.hid hTK
  have HG := Lib.hid hg2
  clear hB hg1 hg2 hTK
  go_wp2_with (fail)
  go_at_call 13
  with_reducible refine (HF.out _ (HL.out.below HB.out)).mono ?_
  rintro _ w3 ⟨hB, a0, a1, a2, a3, a4, a5, a6, a7, rfl, hv⟩
  have HTK := Lib.hid ((HTK.out.turn (hB.block g HG.out)).turn ((bl_al9 (.cells #[.int .u8 a0, .string a1, .slice a2 a3 a4, .slice a5 a6 a7] 25)).block g (Nat.lt_of_lt_of_le HG.out hB.size)))
  have HG := Lib.hid (show g < (w3.alloc (.cells #[.int .u8 a0, .string a1, .slice a2 a3 a4, .slice a5 a6 a7] 25)).heap.size by simp; have := HG.out; have := hB.size; omega)
  have FA := Lib.hid (hv.up (bl_al9 (.cells #[.int .u8 a0, .string a1, .slice a2 a3 a4, .slice a5 a6 a7] 25)))
  have KA := Lib.hid (HK.blk_new w3 (.cells #[.int .u8 a0, .string a1, .slice a2 a3 a4, .slice a5 a6 a7] 25))
  have HB := Lib.hid ((HB.out.trans (hB.mono HB.out.size)).alloc (HB.out.trans (hB.mono HB.out.size)).size (.cells #[.int .u8 a0, .string a1, .slice a2 a3 a4, .slice a5 a6 a7] 25))
  clear hB hv
  go_wp2_with (fail)
  go_at_call 21
  with_reducible refine (HC.out _ (HL.out.below HB.out)).mono ?_
  rintro _ w4 ⟨hB, b0, b1, b2, b3, b4, b5, b6, b7, rfl, hv⟩
  have HTK := Lib.hid ((HTK.out.turn (hB.block g HG.out)).turn ((bl_al9 (.cells #[.int .u8 b0, .string b1, .slice b2 b3 b4, .slice b5 b6 b7] 25)).block g (Nat.lt_of_lt_of_le HG.out hB.size)))
  have HG := Lib.hid (show g < (w4.alloc (.cells #[.int .u8 b0, .string b1, .slice b2 b3 b4, .slice b5 b6 b7] 25)).heap.size by have h1 := HG.out; have h2 := hB.size; simp only [World.size_alloc] at h1 h2 ⊢; omega)
  have FA := Lib.hid ((FA.out.up hB).up (bl_al9 (.cells #[.int .u8 b0, .string b1, .slice b2 b3 b4, .slice b5 b6 b7] 25)))
  have KA := Lib.hid (HK.blk_alloc ((hB.block _ (HK.blk_lt KA.out)).trans KA.out) (.cells #[.int .u8 b0, .string b1, .slice b2 b3 b4, .slice b5 b6 b7] 25))
  have FB := Lib.hid (hv.up (bl_al9 (.cells #[.int .u8 b0, .string b1, .slice b2 b3 b4, .slice b5 b6 b7] 25)))
  have KB := Lib.hid (HK.blk_new w4 (.cells #[.int .u8 b0, .string b1, .slice b2 b3 b4, .slice b5 b6 b7] 25))
  have HB := Lib.hid ((HB.out.trans (hB.mono HB.out.size)).alloc (HB.out.trans (hB.mono HB.out.size)).size (.cells #[.int .u8 b0, .string b1, .slice b2 b3 b4, .slice b5 b6 b7] 25))
  clear hB hv
  go_wp2_with (fail)
  go_at_call 25
  with_reducible refine (HT.out _ (HL.out.below HB.out)).mono ?_
  rintro _ w5 ⟨hB, c0, c1, c2, c3, c4, rfl, hv⟩
  have hTK := (HTK.out.turn (hB.block g HG.out)).turn ((bl_al9 (.cells #[.bool c0, .string c1, .slice c2 c3 c4] 53)).block g (Nat.lt_of_lt_of_le HG.out hB.size))
  have hG := show g < (w5.alloc (.cells #[.bool c0, .string c1, .slice c2 c3 c4] 53)).heap.size by have h1 := HG.out; have h2 := hB.size; simp only [World.size_alloc] at h1 h2 ⊢; omega
  have hFA := (FA.out.up hB).up (bl_al9 (.cells #[.bool c0, .string c1, .slice c2 c3 c4] 53))
  have hKA := HK.blk_alloc ((hB.block _ (HK.blk_lt KA.out)).trans KA.out) (.cells #[.bool c0, .string c1, .slice c2 c3 c4] 53)
  have hFB := (FB.out.up hB).up (bl_al9 (.cells #[.bool c0, .string c1, .slice c2 c3 c4] 53))
  have hKB := HK.blk_alloc ((hB.block _ (HK.blk_lt KB.out)).trans KB.out) (.cells #[.bool c0, .string c1, .slice c2 c3 c4] 53)
  have hFC := hv.up (bl_al9 (.cells #[.bool c0, .string c1, .slice c2 c3 c4] 53))
  have hKC := HK.blk_new w5 (.cells #[.bool c0, .string c1, .slice c2 c3 c4] 53)
  have hBB := (HB.out.trans (hB.mono HB.out.size)).alloc (HB.out.trans (hB.mono HB.out.size)).size (.cells #[.bool c0, .string c1, .slice c2 c3 c4] 53)
  go_wp2_with (fail)
  obtain ⟨w6, hw6⟩ : ∃ w6, w6 = w5.alloc (.cells #[.bool c0, .string c1, .slice c2 c3 c4] 53) := ⟨_, rfl⟩
  rw [← hw6] at hTK hG hFA hKA hFB hKB hFC hKC hBB ⊢
  have HTK := Lib.hid hTK
  have HG := Lib.hid hG
  have FA := Lib.hid hFA
  have KA := Lib.hid hKA
  have FB := Lib.hid hFB
  have KB := Lib.hid hKB
  have FC := Lib.hid hFC
  have KC := Lib.hid hKC
  have HB := Lib.hid hBB
  clear hTK hG hFA hKA hFB hKB hFC hKC hBB hw6 hB hv
  go_loopw [15, 16] (fun m i wr => ∃ j : Nat, j ≤ nl ∧ i = .int .i64 j ∧ m = .bool ((ts.take j).any mtB) ∧ Below w6.heap.size w6 wr) (fun _ i _ => nl - (intOf i).toNat)
  case atStart => exact ⟨0, by omega, rfl, rfl, Below.refl _ _⟩
  case round =>
    obtain ⟨j, hj, rfl, rfl, hB⟩ := hrel
    have HBR := Lib.hid hB
    by_cases hjn : (j : Int) < (nl : Int)
    · have j0 : (0 : Int) ≤ (j : Int) := by omega
      obtain ⟨t, htj⟩ : ∃ t, ts[j]? = some t := ⟨_, List.getElem?_eq_getElem (by rw [← HNL.out]; omega)⟩
      have hc0 := (hB.cell (p := ⟨g, j * 3, none⟩) HG.out).trans (HTK.out.c0 j t htj)
      have hat := any_take htj
      obtain ⟨mj, hmj⟩ : ∃ mj, mj = (ts.take j).any mtB := ⟨_, rfl⟩
      rw [← hmj] at hat ⊢
      obtain ⟨tk, htk⟩ : ∃ tk, tk = t.k := ⟨_, rfl⟩
      rw [← htk] at hc0
      obtain ⟨kb, hkb⟩ : ∃ kb, (tk == 2) = kb := ⟨_, rfl⟩
      have HAT : Hid ((ts.take (j + 1)).any mtB = (mj || kb)) := Lib.hid (by rw [hat, ← hkb, htk]; rfl)
      clear hat hmj htk htj hB
      cases mj
      · go_wp2_with (fail)
        go_roundw
        case rel => exact ⟨j + 1, by omega, by go_num, by rw [HAT.out]; simp, HBR.out⟩
        case measure => simp [intOf]; omega
      · go_wp2_with (fail)
        go_roundw
        case rel => exact ⟨j + 1, by omega, by go_num, by rw [HAT.out]; simp, HBR.out⟩
        case measure => simp [intOf]; omega
    · obtain rfl : j = nl := by omega
      rw [List.take_of_length_le (by rw [HNL.out]; exact Nat.le_refl _), HM.out]
      obtain ⟨W0, hW0⟩ : ∃ W0 : World, W0 = wr := ⟨_, rfl⟩
      have hKA := (hB.block _ (HK.blk_lt KA.out)).trans KA.out
      have hKB := (hB.block _ (HK.blk_lt KB.out)).trans KB.out
      have hKC := (hB.block _ (HK.blk_lt KC.out)).trans KC.out
      have x0 := HK.blk_cell hKA 0
      have y0 := HK.blk_cell hKB 0
      have x1 := HK.blk_cell hKA 1
      have y1 := HK.blk_cell hKB 1
      have x2 := HK.blk_cell hKA 2
      have y2 := HK.blk_cell hKB 2
      have x3 := HK.blk_cell hKA 3
      have y3 := HK.blk_cell hKB 3
      have z0 := HK.blk_cell hKC 0
      have z1 := HK.blk_cell hKC 1
      have z2 := HK.blk_cell hKC 2
      have KA := Lib.hid hKA
      have KB := Lib.hid hKB
      have KC := Lib.hid hKC
      have FA := Lib.hid (FA.out.up hB)
      have FB := Lib.hid (FB.out.up hB)
      have FC := Lib.hid (FC.out.up hB)
      have HB := Lib.hid (HB.out.trans (hB.mono HB.out.size))
      clear hKA hKB hKC hB hW0
      have hcall := same_v FA.out FB.out (show nodesF f1 ≤ 1000000 by have := HN1.out; omega)
      unfold RetY at hcall
      have HCC := Lib.hid hcall
      clear hcall
      go_wp2_with (fail)
      go_at_call 16
      with_reducible refine HCC.out.mono ?_
      clear x0 y0 x1 y1 x2 y2 x3 y3 z0 z1 z2
      rintro _ v0 ⟨rfl, hB⟩
      have hKA := (hB.block _ (HK.blk_lt KA.out)).trans KA.out
      have hKB := (hB.block _ (HK.blk_lt KB.out)).trans KB.out
      have hKC := (hB.block _ (HK.blk_lt KC.out)).trans KC.out
      have x0 := HK.blk_cell hKA 0
      have y0 := HK.blk_cell hKB 0
      have x1 := HK.blk_cell hKA 1
      have y1 := HK.blk_cell hKB 1
      have x2 := HK.blk_cell hKA 2
      have y2 := HK.blk_cell hKB 2
      have x3 := HK.blk_cell hKA 3
      have y3 := HK.blk_cell hKB 3
      have z0 := HK.blk_cell hKC 0
      have z1 := HK.blk_cell hKC 1
      have z2 := HK.blk_cell hKC 2
      have KA := Lib.hid hKA
      have KB := Lib.hid hKB
      have KC := Lib.hid hKC
      have FA := Lib.hid (FA.out.up hB)
      have FB := Lib.hid (FB.out.up hB)
      have FC := Lib.hid (FC.out.up hB)
      have HB := Lib.hid (HB.out.trans (hB.mono HB.out.size))
      clear hKA hKB hKC hB
      go_wp2_with (fail)
      go_ret
      exact ⟨rfl, HB.out⟩
set_option maxRecDepth 100000 in
set_option maxHeartbeats 8000000 in
theorem only_d (w : World) (s : ByteArray) (hL : LaidAll w) (hl : s.size ≤ 2500) (ts : List Tok) (p : Nat) (hX : LexL 0 (bys s) ts p 0) (hM : ts.any mtB = true) {f1 : Fm} {p1 : Nat} {e1 : Int} {f2 : Fm} {p2 : Nat} {e2 : Int} {f3 : Tm} {p3 : Nat} {e3 : Int} (he1 : e1 ≠ 0) (he2 : e2 = 0) (he3 : e3 ≠ 0) (hN1 : nodesF f1 ≤ 900000) (hN2 : nodesF f2 ≤ 900000) (hN3 : nodesT f3 ≤ 900000) (hc : schF f2 = true)
    (h1 : ∀ W, LaidAll W → Calls Tryd.prog 13 #[.string s] W (fun E W' => Below W.heap.size W W' ∧ ∃ (o8 : Int) (nm : ByteArray) (aa : Option Addr) (an ac : Nat) (sa : Option Addr) (sn sc : Nat), E = .returned (.tuple #[.agg #[.int .u8 o8, .string nm, .slice aa an ac, .slice sa sn sc], .int .i64 (p1 : Int), .int .i64 e1]) ∧ FmV W' W.heap.size f1 (.agg #[.int .u8 o8, .string nm, .slice aa an ac, .slice sa sn sc]))) (h2 : ∀ W, LaidAll W → Calls Tryd.prog 21 #[.string s] W (fun E W' => Below W.heap.size W W' ∧ ∃ (o8 : Int) (nm : ByteArray) (aa : Option Addr) (an ac : Nat) (sa : Option Addr) (sn sc : Nat), E = .returned (.tuple #[.agg #[.int .u8 o8, .string nm, .slice aa an ac, .slice sa sn sc], .int .i64 (p2 : Int), .int .i64 e2]) ∧ FmV W' W.heap.size f2 (.agg #[.int .u8 o8, .string nm, .slice aa an ac, .slice sa sn sc]))) (h3 : ∀ W, LaidAll W → Calls Tryd.prog 25 #[.string s] W (fun E W' => Below W.heap.size W W' ∧ ∃ (o8 : Bool) (nm : ByteArray) (aa : Option Addr) (an ac : Nat), E = .returned (.tuple #[.agg #[.bool o8, .string nm, .slice aa an ac], .int .i64 (p3 : Int), .int .i64 e3]) ∧ TmV W' W.heap.size f3 (.agg #[.bool o8, .string nm, .slice aa an ac]))) :
    Calls Tryd.prog 7 #[.string s] w (RetOk w) := by
  have HA := Lib.hid (awake_any w hL.signs hL.levels hL.rows)
  unfold RetA1 at HA
  have hT := tsok_of_lex (l := bys s) (by show s.size ≤ 16384; omega) hX
  have hx := fun (W : World) (hB : Below w.heap.size w W) => lexT_any W s (by omega) (hL.below hB).signs ts p hX
  have HX := Lib.hid hx
  have HF := Lib.hid h1
  have HC := Lib.hid h2
  have HT := Lib.hid h3
  have HL := Lib.hid hL
  have HM := Lib.hid hM
  have HN1 := Lib.hid hN1
  have HN2 := Lib.hid hN2
  have HN3 := Lib.hid hN3
  have HSC := Lib.hid hc
  obtain ⟨n, hn⟩ : ∃ n, n = s.size := ⟨_, rfl⟩
  rw [← hn] at hl
  have hd : ¬ (2500 : Int) < (n : Int) := by omega
  have hn2 : s.size = n := hn.symm
  obtain ⟨nl, hnl⟩ : ∃ nl, nl = ts.length := ⟨_, rfl⟩
  have hnl2 : nl ≤ 20000 := by have := hT.en.len; have := hT.le; omega
  simp only [← hnl] at HX
  have HNL := Lib.hid hnl
  have qe1 : (e1 != 0) = true := by simp [he1]
  have re1 : (e1 == 0) = false := by simp [he1]
  clear he1
  subst he2
  have qe3 : (e3 != 0) = true := by simp [he3]
  have re3 : (e3 == 0) = false := by simp [he3]
  clear he3
  clear hL hl hn hx h1 h2 h3 hX hM hT hnl hN1 hN2 hN3 hc
  go_enter Tryd.func7, Tryd.ntmps7
  go_wp2_with (fail)
  go_at_call 9
  with_reducible refine HA.out.mono ?_
  rintro _ w1 ⟨rfl, hB⟩
  have HB := Lib.hid hB
  clear hB
  go_wp2_with (fail)
  go_at_call 22
  with_reducible refine (HX.out _ HB.out).mono ?_
  rintro _ w2 ⟨hB, g, c, rfl, hg1, hg2, hTK⟩
  have HB := Lib.hid (HB.out.trans (hB.mono HB.out.size))
  have HTK := Lib.hid hTK
  have HG := Lib.hid hg2
  clear hB hg1 hg2 hTK
  go_wp2_with (fail)
  go_at_call 13
  with_reducible refine (HF.out _ (HL.out.below HB.out)).mono ?_
  rintro _ w3 ⟨hB, a0, a1, a2, a3, a4, a5, a6, a7, rfl, hv⟩
  have HTK := Lib.hid ((HTK.out.turn (hB.block g HG.out)).turn ((bl_al9 (.cells #[.int .u8 a0, .string a1, .slice a2 a3 a4, .slice a5 a6 a7] 25)).block g (Nat.lt_of_lt_of_le HG.out hB.size)))
  have HG := Lib.hid (show g < (w3.alloc (.cells #[.int .u8 a0, .string a1, .slice a2 a3 a4, .slice a5 a6 a7] 25)).heap.size by simp; have := HG.out; have := hB.size; omega)
  have FA := Lib.hid (hv.up (bl_al9 (.cells #[.int .u8 a0, .string a1, .slice a2 a3 a4, .slice a5 a6 a7] 25)))
  have KA := Lib.hid (HK.blk_new w3 (.cells #[.int .u8 a0, .string a1, .slice a2 a3 a4, .slice a5 a6 a7] 25))
  have HB := Lib.hid ((HB.out.trans (hB.mono HB.out.size)).alloc (HB.out.trans (hB.mono HB.out.size)).size (.cells #[.int .u8 a0, .string a1, .slice a2 a3 a4, .slice a5 a6 a7] 25))
  clear hB hv
  go_wp2_with (fail)
  go_at_call 21
  with_reducible refine (HC.out _ (HL.out.below HB.out)).mono ?_
  rintro _ w4 ⟨hB, b0, b1, b2, b3, b4, b5, b6, b7, rfl, hv⟩
  have HTK := Lib.hid ((HTK.out.turn (hB.block g HG.out)).turn ((bl_al9 (.cells #[.int .u8 b0, .string b1, .slice b2 b3 b4, .slice b5 b6 b7] 25)).block g (Nat.lt_of_lt_of_le HG.out hB.size)))
  have HG := Lib.hid (show g < (w4.alloc (.cells #[.int .u8 b0, .string b1, .slice b2 b3 b4, .slice b5 b6 b7] 25)).heap.size by have h1 := HG.out; have h2 := hB.size; simp only [World.size_alloc] at h1 h2 ⊢; omega)
  have FA := Lib.hid ((FA.out.up hB).up (bl_al9 (.cells #[.int .u8 b0, .string b1, .slice b2 b3 b4, .slice b5 b6 b7] 25)))
  have KA := Lib.hid (HK.blk_alloc ((hB.block _ (HK.blk_lt KA.out)).trans KA.out) (.cells #[.int .u8 b0, .string b1, .slice b2 b3 b4, .slice b5 b6 b7] 25))
  have FB := Lib.hid (hv.up (bl_al9 (.cells #[.int .u8 b0, .string b1, .slice b2 b3 b4, .slice b5 b6 b7] 25)))
  have KB := Lib.hid (HK.blk_new w4 (.cells #[.int .u8 b0, .string b1, .slice b2 b3 b4, .slice b5 b6 b7] 25))
  have HB := Lib.hid ((HB.out.trans (hB.mono HB.out.size)).alloc (HB.out.trans (hB.mono HB.out.size)).size (.cells #[.int .u8 b0, .string b1, .slice b2 b3 b4, .slice b5 b6 b7] 25))
  clear hB hv
  go_wp2_with (fail)
  go_at_call 25
  with_reducible refine (HT.out _ (HL.out.below HB.out)).mono ?_
  rintro _ w5 ⟨hB, c0, c1, c2, c3, c4, rfl, hv⟩
  have hTK := (HTK.out.turn (hB.block g HG.out)).turn ((bl_al9 (.cells #[.bool c0, .string c1, .slice c2 c3 c4] 53)).block g (Nat.lt_of_lt_of_le HG.out hB.size))
  have hG := show g < (w5.alloc (.cells #[.bool c0, .string c1, .slice c2 c3 c4] 53)).heap.size by have h1 := HG.out; have h2 := hB.size; simp only [World.size_alloc] at h1 h2 ⊢; omega
  have hFA := (FA.out.up hB).up (bl_al9 (.cells #[.bool c0, .string c1, .slice c2 c3 c4] 53))
  have hKA := HK.blk_alloc ((hB.block _ (HK.blk_lt KA.out)).trans KA.out) (.cells #[.bool c0, .string c1, .slice c2 c3 c4] 53)
  have hFB := (FB.out.up hB).up (bl_al9 (.cells #[.bool c0, .string c1, .slice c2 c3 c4] 53))
  have hKB := HK.blk_alloc ((hB.block _ (HK.blk_lt KB.out)).trans KB.out) (.cells #[.bool c0, .string c1, .slice c2 c3 c4] 53)
  have hFC := hv.up (bl_al9 (.cells #[.bool c0, .string c1, .slice c2 c3 c4] 53))
  have hKC := HK.blk_new w5 (.cells #[.bool c0, .string c1, .slice c2 c3 c4] 53)
  have hBB := (HB.out.trans (hB.mono HB.out.size)).alloc (HB.out.trans (hB.mono HB.out.size)).size (.cells #[.bool c0, .string c1, .slice c2 c3 c4] 53)
  go_wp2_with (fail)
  obtain ⟨w6, hw6⟩ : ∃ w6, w6 = w5.alloc (.cells #[.bool c0, .string c1, .slice c2 c3 c4] 53) := ⟨_, rfl⟩
  rw [← hw6] at hTK hG hFA hKA hFB hKB hFC hKC hBB ⊢
  have HTK := Lib.hid hTK
  have HG := Lib.hid hG
  have FA := Lib.hid hFA
  have KA := Lib.hid hKA
  have FB := Lib.hid hFB
  have KB := Lib.hid hKB
  have FC := Lib.hid hFC
  have KC := Lib.hid hKC
  have HB := Lib.hid hBB
  clear hTK hG hFA hKA hFB hKB hFC hKC hBB hw6 hB hv
  go_loopw [15, 16] (fun m i wr => ∃ j : Nat, j ≤ nl ∧ i = .int .i64 j ∧ m = .bool ((ts.take j).any mtB) ∧ Below w6.heap.size w6 wr) (fun _ i _ => nl - (intOf i).toNat)
  case atStart => exact ⟨0, by omega, rfl, rfl, Below.refl _ _⟩
  case round =>
    obtain ⟨j, hj, rfl, rfl, hB⟩ := hrel
    have HBR := Lib.hid hB
    by_cases hjn : (j : Int) < (nl : Int)
    · have j0 : (0 : Int) ≤ (j : Int) := by omega
      obtain ⟨t, htj⟩ : ∃ t, ts[j]? = some t := ⟨_, List.getElem?_eq_getElem (by rw [← HNL.out]; omega)⟩
      have hc0 := (hB.cell (p := ⟨g, j * 3, none⟩) HG.out).trans (HTK.out.c0 j t htj)
      have hat := any_take htj
      obtain ⟨mj, hmj⟩ : ∃ mj, mj = (ts.take j).any mtB := ⟨_, rfl⟩
      rw [← hmj] at hat ⊢
      obtain ⟨tk, htk⟩ : ∃ tk, tk = t.k := ⟨_, rfl⟩
      rw [← htk] at hc0
      obtain ⟨kb, hkb⟩ : ∃ kb, (tk == 2) = kb := ⟨_, rfl⟩
      have HAT : Hid ((ts.take (j + 1)).any mtB = (mj || kb)) := Lib.hid (by rw [hat, ← hkb, htk]; rfl)
      clear hat hmj htk htj hB
      cases mj
      · go_wp2_with (fail)
        go_roundw
        case rel => exact ⟨j + 1, by omega, by go_num, by rw [HAT.out]; simp, HBR.out⟩
        case measure => simp [intOf]; omega
      · go_wp2_with (fail)
        go_roundw
        case rel => exact ⟨j + 1, by omega, by go_num, by rw [HAT.out]; simp, HBR.out⟩
        case measure => simp [intOf]; omega
    · obtain rfl : j = nl := by omega
      rw [List.take_of_length_le (by rw [HNL.out]; exact Nat.le_refl _), HM.out]
      obtain ⟨W0, hW0⟩ : ∃ W0 : World, W0 = wr := ⟨_, rfl⟩
      have hKA := (hB.block _ (HK.blk_lt KA.out)).trans KA.out
      have hKB := (hB.block _ (HK.blk_lt KB.out)).trans KB.out
      have hKC := (hB.block _ (HK.blk_lt KC.out)).trans KC.out
      have x0 := HK.blk_cell hKA 0
      have y0 := HK.blk_cell hKB 0
      have x1 := HK.blk_cell hKA 1
      have y1 := HK.blk_cell hKB 1
      have x2 := HK.blk_cell hKA 2
      have y2 := HK.blk_cell hKB 2
      have x3 := HK.blk_cell hKA 3
      have y3 := HK.blk_cell hKB 3
      have z0 := HK.blk_cell hKC 0
      have z1 := HK.blk_cell hKC 1
      have z2 := HK.blk_cell hKC 2
      have KA := Lib.hid hKA
      have KB := Lib.hid hKB
      have KC := Lib.hid hKC
      have FA := Lib.hid (FA.out.up hB)
      have FB := Lib.hid (FB.out.up hB)
      have FC := Lib.hid (FC.out.up hB)
      have HB := Lib.hid (HB.out.trans (hB.mono HB.out.size))
      clear hKA hKB hKC hB hW0
      have hcall := sch_v (HL.out.below HB.out).rows FB.out HN2.out
      rw [HSC.out] at hcall
      unfold RetW at hcall
      have HCC := Lib.hid hcall
      clear hcall
      go_wp2_with (fail)
      go_at_call 11
      with_reducible refine HCC.out.mono ?_
      clear x0 y0 x1 y1 x2 y2 x3 y3 z0 z1 z2
      rintro _ v0 ⟨rfl, hB⟩
      have hKA := (hB.block _ (HK.blk_lt KA.out)).trans KA.out
      have hKB := (hB.block _ (HK.blk_lt KB.out)).trans KB.out
      have hKC := (hB.block _ (HK.blk_lt KC.out)).trans KC.out
      have x0 := HK.blk_cell hKA 0
      have y0 := HK.blk_cell hKB 0
      have x1 := HK.blk_cell hKA 1
      have y1 := HK.blk_cell hKB 1
      have x2 := HK.blk_cell hKA 2
      have y2 := HK.blk_cell hKB 2
      have x3 := HK.blk_cell hKA 3
      have y3 := HK.blk_cell hKB 3
      have z0 := HK.blk_cell hKC 0
      have z1 := HK.blk_cell hKC 1
      have z2 := HK.blk_cell hKC 2
      have KA := Lib.hid hKA
      have KB := Lib.hid hKB
      have KC := Lib.hid hKC
      have FA := Lib.hid (FA.out.up hB)
      have FB := Lib.hid (FB.out.up hB)
      have FC := Lib.hid (FC.out.up hB)
      have HB := Lib.hid (HB.out.trans (hB.mono HB.out.size))
      clear hKA hKB hKC hB
      go_wp2_with (fail)
      go_ret
      exact ⟨rfl, HB.out⟩
set_option maxRecDepth 100000 in
set_option maxHeartbeats 8000000 in
theorem only_e (w : World) (s : ByteArray) (hL : LaidAll w) (hl : s.size ≤ 2500) (ts : List Tok) (p : Nat) (hX : LexL 0 (bys s) ts p 0) (hM : ts.any mtB = true) {f1 : Fm} {p1 : Nat} {e1 : Int} {f2 : Fm} {p2 : Nat} {e2 : Int} {f3 : Tm} {p3 : Nat} {e3 : Int} (he1 : e1 ≠ 0) (he2 : e2 ≠ 0) (he3 : e3 ≠ 0) (hN1 : nodesF f1 ≤ 900000) (hN2 : nodesF f2 ≤ 900000) (hN3 : nodesT f3 ≤ 900000)
    (h1 : ∀ W, LaidAll W → Calls Tryd.prog 13 #[.string s] W (fun E W' => Below W.heap.size W W' ∧ ∃ (o8 : Int) (nm : ByteArray) (aa : Option Addr) (an ac : Nat) (sa : Option Addr) (sn sc : Nat), E = .returned (.tuple #[.agg #[.int .u8 o8, .string nm, .slice aa an ac, .slice sa sn sc], .int .i64 (p1 : Int), .int .i64 e1]) ∧ FmV W' W.heap.size f1 (.agg #[.int .u8 o8, .string nm, .slice aa an ac, .slice sa sn sc]))) (h2 : ∀ W, LaidAll W → Calls Tryd.prog 21 #[.string s] W (fun E W' => Below W.heap.size W W' ∧ ∃ (o8 : Int) (nm : ByteArray) (aa : Option Addr) (an ac : Nat) (sa : Option Addr) (sn sc : Nat), E = .returned (.tuple #[.agg #[.int .u8 o8, .string nm, .slice aa an ac, .slice sa sn sc], .int .i64 (p2 : Int), .int .i64 e2]) ∧ FmV W' W.heap.size f2 (.agg #[.int .u8 o8, .string nm, .slice aa an ac, .slice sa sn sc]))) (h3 : ∀ W, LaidAll W → Calls Tryd.prog 25 #[.string s] W (fun E W' => Below W.heap.size W W' ∧ ∃ (o8 : Bool) (nm : ByteArray) (aa : Option Addr) (an ac : Nat), E = .returned (.tuple #[.agg #[.bool o8, .string nm, .slice aa an ac], .int .i64 (p3 : Int), .int .i64 e3]) ∧ TmV W' W.heap.size f3 (.agg #[.bool o8, .string nm, .slice aa an ac]))) :
    Calls Tryd.prog 7 #[.string s] w (RetOk w) := by
  have HA := Lib.hid (awake_any w hL.signs hL.levels hL.rows)
  unfold RetA1 at HA
  have hT := tsok_of_lex (l := bys s) (by show s.size ≤ 16384; omega) hX
  have hx := fun (W : World) (hB : Below w.heap.size w W) => lexT_any W s (by omega) (hL.below hB).signs ts p hX
  have HX := Lib.hid hx
  have HF := Lib.hid h1
  have HC := Lib.hid h2
  have HT := Lib.hid h3
  have HL := Lib.hid hL
  have HM := Lib.hid hM
  have HN1 := Lib.hid hN1
  have HN2 := Lib.hid hN2
  have HN3 := Lib.hid hN3
  obtain ⟨n, hn⟩ : ∃ n, n = s.size := ⟨_, rfl⟩
  rw [← hn] at hl
  have hd : ¬ (2500 : Int) < (n : Int) := by omega
  have hn2 : s.size = n := hn.symm
  obtain ⟨nl, hnl⟩ : ∃ nl, nl = ts.length := ⟨_, rfl⟩
  have hnl2 : nl ≤ 20000 := by have := hT.en.len; have := hT.le; omega
  simp only [← hnl] at HX
  have HNL := Lib.hid hnl
  have qe1 : (e1 != 0) = true := by simp [he1]
  have re1 : (e1 == 0) = false := by simp [he1]
  clear he1
  have qe2 : (e2 != 0) = true := by simp [he2]
  have re2 : (e2 == 0) = false := by simp [he2]
  clear he2
  have qe3 : (e3 != 0) = true := by simp [he3]
  have re3 : (e3 == 0) = false := by simp [he3]
  clear he3
  clear hL hl hn hx h1 h2 h3 hX hM hT hnl hN1 hN2 hN3
  go_enter Tryd.func7, Tryd.ntmps7
  go_wp2_with (fail)
  go_at_call 9
  with_reducible refine HA.out.mono ?_
  rintro _ w1 ⟨rfl, hB⟩
  have HB := Lib.hid hB
  clear hB
  go_wp2_with (fail)
  go_at_call 22
  with_reducible refine (HX.out _ HB.out).mono ?_
  rintro _ w2 ⟨hB, g, c, rfl, hg1, hg2, hTK⟩
  have HB := Lib.hid (HB.out.trans (hB.mono HB.out.size))
  have HTK := Lib.hid hTK
  have HG := Lib.hid hg2
  clear hB hg1 hg2 hTK
  go_wp2_with (fail)
  go_at_call 13
  with_reducible refine (HF.out _ (HL.out.below HB.out)).mono ?_
  rintro _ w3 ⟨hB, a0, a1, a2, a3, a4, a5, a6, a7, rfl, hv⟩
  have HTK := Lib.hid ((HTK.out.turn (hB.block g HG.out)).turn ((bl_al9 (.cells #[.int .u8 a0, .string a1, .slice a2 a3 a4, .slice a5 a6 a7] 25)).block g (Nat.lt_of_lt_of_le HG.out hB.size)))
  have HG := Lib.hid (show g < (w3.alloc (.cells #[.int .u8 a0, .string a1, .slice a2 a3 a4, .slice a5 a6 a7] 25)).heap.size by simp; have := HG.out; have := hB.size; omega)
  have FA := Lib.hid (hv.up (bl_al9 (.cells #[.int .u8 a0, .string a1, .slice a2 a3 a4, .slice a5 a6 a7] 25)))
  have KA := Lib.hid (HK.blk_new w3 (.cells #[.int .u8 a0, .string a1, .slice a2 a3 a4, .slice a5 a6 a7] 25))
  have HB := Lib.hid ((HB.out.trans (hB.mono HB.out.size)).alloc (HB.out.trans (hB.mono HB.out.size)).size (.cells #[.int .u8 a0, .string a1, .slice a2 a3 a4, .slice a5 a6 a7] 25))
  clear hB hv
  go_wp2_with (fail)
  go_at_call 21
  with_reducible refine (HC.out _ (HL.out.below HB.out)).mono ?_
  rintro _ w4 ⟨hB, b0, b1, b2, b3, b4, b5, b6, b7, rfl, hv⟩
  have HTK := Lib.hid ((HTK.out.turn (hB.block g HG.out)).turn ((bl_al9 (.cells #[.int .u8 b0, .string b1, .slice b2 b3 b4, .slice b5 b6 b7] 25)).block g (Nat.lt_of_lt_of_le HG.out hB.size)))
  have HG := Lib.hid (show g < (w4.alloc (.cells #[.int .u8 b0, .string b1, .slice b2 b3 b4, .slice b5 b6 b7] 25)).heap.size by have h1 := HG.out; have h2 := hB.size; simp only [World.size_alloc] at h1 h2 ⊢; omega)
  have FA := Lib.hid ((FA.out.up hB).up (bl_al9 (.cells #[.int .u8 b0, .string b1, .slice b2 b3 b4, .slice b5 b6 b7] 25)))
  have KA := Lib.hid (HK.blk_alloc ((hB.block _ (HK.blk_lt KA.out)).trans KA.out) (.cells #[.int .u8 b0, .string b1, .slice b2 b3 b4, .slice b5 b6 b7] 25))
  have FB := Lib.hid (hv.up (bl_al9 (.cells #[.int .u8 b0, .string b1, .slice b2 b3 b4, .slice b5 b6 b7] 25)))
  have KB := Lib.hid (HK.blk_new w4 (.cells #[.int .u8 b0, .string b1, .slice b2 b3 b4, .slice b5 b6 b7] 25))
  have HB := Lib.hid ((HB.out.trans (hB.mono HB.out.size)).alloc (HB.out.trans (hB.mono HB.out.size)).size (.cells #[.int .u8 b0, .string b1, .slice b2 b3 b4, .slice b5 b6 b7] 25))
  clear hB hv
  go_wp2_with (fail)
  go_at_call 25
  with_reducible refine (HT.out _ (HL.out.below HB.out)).mono ?_
  rintro _ w5 ⟨hB, c0, c1, c2, c3, c4, rfl, hv⟩
  have hTK := (HTK.out.turn (hB.block g HG.out)).turn ((bl_al9 (.cells #[.bool c0, .string c1, .slice c2 c3 c4] 53)).block g (Nat.lt_of_lt_of_le HG.out hB.size))
  have hG := show g < (w5.alloc (.cells #[.bool c0, .string c1, .slice c2 c3 c4] 53)).heap.size by have h1 := HG.out; have h2 := hB.size; simp only [World.size_alloc] at h1 h2 ⊢; omega
  have hFA := (FA.out.up hB).up (bl_al9 (.cells #[.bool c0, .string c1, .slice c2 c3 c4] 53))
  have hKA := HK.blk_alloc ((hB.block _ (HK.blk_lt KA.out)).trans KA.out) (.cells #[.bool c0, .string c1, .slice c2 c3 c4] 53)
  have hFB := (FB.out.up hB).up (bl_al9 (.cells #[.bool c0, .string c1, .slice c2 c3 c4] 53))
  have hKB := HK.blk_alloc ((hB.block _ (HK.blk_lt KB.out)).trans KB.out) (.cells #[.bool c0, .string c1, .slice c2 c3 c4] 53)
  have hFC := hv.up (bl_al9 (.cells #[.bool c0, .string c1, .slice c2 c3 c4] 53))
  have hKC := HK.blk_new w5 (.cells #[.bool c0, .string c1, .slice c2 c3 c4] 53)
  have hBB := (HB.out.trans (hB.mono HB.out.size)).alloc (HB.out.trans (hB.mono HB.out.size)).size (.cells #[.bool c0, .string c1, .slice c2 c3 c4] 53)
  go_wp2_with (fail)
  obtain ⟨w6, hw6⟩ : ∃ w6, w6 = w5.alloc (.cells #[.bool c0, .string c1, .slice c2 c3 c4] 53) := ⟨_, rfl⟩
  rw [← hw6] at hTK hG hFA hKA hFB hKB hFC hKC hBB ⊢
  have HTK := Lib.hid hTK
  have HG := Lib.hid hG
  have FA := Lib.hid hFA
  have KA := Lib.hid hKA
  have FB := Lib.hid hFB
  have KB := Lib.hid hKB
  have FC := Lib.hid hFC
  have KC := Lib.hid hKC
  have HB := Lib.hid hBB
  clear hTK hG hFA hKA hFB hKB hFC hKC hBB hw6 hB hv
  go_loopw [15, 16] (fun m i wr => ∃ j : Nat, j ≤ nl ∧ i = .int .i64 j ∧ m = .bool ((ts.take j).any mtB) ∧ Below w6.heap.size w6 wr) (fun _ i _ => nl - (intOf i).toNat)
  case atStart => exact ⟨0, by omega, rfl, rfl, Below.refl _ _⟩
  case round =>
    obtain ⟨j, hj, rfl, rfl, hB⟩ := hrel
    have HBR := Lib.hid hB
    by_cases hjn : (j : Int) < (nl : Int)
    · have j0 : (0 : Int) ≤ (j : Int) := by omega
      obtain ⟨t, htj⟩ : ∃ t, ts[j]? = some t := ⟨_, List.getElem?_eq_getElem (by rw [← HNL.out]; omega)⟩
      have hc0 := (hB.cell (p := ⟨g, j * 3, none⟩) HG.out).trans (HTK.out.c0 j t htj)
      have hat := any_take htj
      obtain ⟨mj, hmj⟩ : ∃ mj, mj = (ts.take j).any mtB := ⟨_, rfl⟩
      rw [← hmj] at hat ⊢
      obtain ⟨tk, htk⟩ : ∃ tk, tk = t.k := ⟨_, rfl⟩
      rw [← htk] at hc0
      obtain ⟨kb, hkb⟩ : ∃ kb, (tk == 2) = kb := ⟨_, rfl⟩
      have HAT : Hid ((ts.take (j + 1)).any mtB = (mj || kb)) := Lib.hid (by rw [hat, ← hkb, htk]; rfl)
      clear hat hmj htk htj hB
      cases mj
      · go_wp2_with (fail)
        go_roundw
        case rel => exact ⟨j + 1, by omega, by go_num, by rw [HAT.out]; simp, HBR.out⟩
        case measure => simp [intOf]; omega
      · go_wp2_with (fail)
        go_roundw
        case rel => exact ⟨j + 1, by omega, by go_num, by rw [HAT.out]; simp, HBR.out⟩
        case measure => simp [intOf]; omega
    · obtain rfl : j = nl := by omega
      rw [List.take_of_length_le (by rw [HNL.out]; exact Nat.le_refl _), HM.out]
      obtain ⟨W0, hW0⟩ : ∃ W0 : World, W0 = wr := ⟨_, rfl⟩
      have hKA := (hB.block _ (HK.blk_lt KA.out)).trans KA.out
      have hKB := (hB.block _ (HK.blk_lt KB.out)).trans KB.out
      have hKC := (hB.block _ (HK.blk_lt KC.out)).trans KC.out
      have x0 := HK.blk_cell hKA 0
      have y0 := HK.blk_cell hKB 0
      have x1 := HK.blk_cell hKA 1
      have y1 := HK.blk_cell hKB 1
      have x2 := HK.blk_cell hKA 2
      have y2 := HK.blk_cell hKB 2
      have x3 := HK.blk_cell hKA 3
      have y3 := HK.blk_cell hKB 3
      have z0 := HK.blk_cell hKC 0
      have z1 := HK.blk_cell hKC 1
      have z2 := HK.blk_cell hKC 2
      have KA := Lib.hid hKA
      have KB := Lib.hid hKB
      have KC := Lib.hid hKC
      have FA := Lib.hid (FA.out.up hB)
      have FB := Lib.hid (FB.out.up hB)
      have FC := Lib.hid (FC.out.up hB)
      have HB := Lib.hid (HB.out.trans (hB.mono HB.out.size))
      clear hKA hKB hKC hB hW0
      go_wp2_with (fail)
      go_ret
      exact ⟨rfl, HB.out⟩
end Go.Proofs.YtdobflpbkfkmgaaDoor
namespace Go.Proofs.YtdobflpbkfkmgaaDoor
open Go.RowKit Go.HK Go.FR
set_option linter.unusedVariables false
set_option linter.unusedSimpArgs false
set_option linter.unusedSectionVars false
theorem formA_cases {m : Bool} {l : List UInt8} {r : An Fm} (hl : l.length ≤ 16384) (h : RdF m l r) : (∃ f, formA r = .ok f ∧ r = .ok f ∧ rightF f = true ∧ nodesF f ≤ 900000) ∨ (∃ p e, formA r = .bad p e ∧ e ≠ 0) := by
  cases r with
  | ok f =>
    obtain ⟨_, _, _, _, _, _, _, hN⟩ := rdF_ok hl h rfl
    by_cases hr : rightF f = true
    · exact .inl ⟨f, by simp [formA, hr], rfl, hr, by omega⟩
    · exact .inr ⟨0, 3, by simp [formA, hr], by decide⟩
  | bad p e => exact .inr ⟨p, e, rfl, (rdF_bad hl h rfl).1⟩
theorem schA_cases {m : Bool} {l : List UInt8} {r : An Fm} (hl : l.length ≤ 16384) (h : RdF m l r) : (∃ f, schA r = .ok f ∧ r = .ok f ∧ schF f = true ∧ nodesF f ≤ 900000) ∨ (∃ p e, schA r = .bad p e ∧ e ≠ 0) := by
  cases r with
  | ok f =>
    obtain ⟨_, _, _, _, _, _, _, hN⟩ := rdF_ok hl h rfl
    by_cases hr : schF f = true
    · exact .inl ⟨f, by simp [schA, hr], rfl, hr, by omega⟩
    · exact .inr ⟨0, 3, by simp [schA, hr], by decide⟩
  | bad p e => exact .inr ⟨p, e, rfl, (rdF_bad hl h rfl).1⟩
theorem termA_cases {m : Bool} {l : List UInt8} {r : An Tm} (hl : l.length ≤ 16384) (h : RdT m l r) : (∃ f, termA r = .ok f ∧ r = .ok f ∧ rightT f = true ∧ nodesT f ≤ 900000) ∨ (∃ p e, termA r = .bad p e ∧ e ≠ 0) := by
  cases r with
  | ok f =>
    obtain ⟨_, _, _, _, _, _, _, hN⟩ := rdT_ok hl h rfl
    by_cases hr : rightT f = true ∧ nodesT f ≤ 400 ∧ depthT f ≤ 40
    · exact .inl ⟨f, by simp [termA, hr], rfl, hr.1, by omega⟩
    · exact .inr ⟨0, 3, by simp only [termA, if_neg hr], by decide⟩
  | bad p e => exact .inr ⟨p, e, rfl, (rdT_bad hl h rfl).1⟩
theorem rdF_lex {m : Bool} {l : List UInt8} {ts : List Tok} {p : Nat} {f : Fm} (hl : l.length ≤ 16384) (hX : LexL 0 l ts p 0) (h : RdF m l (.ok f)) : ∃ k, Rd m ts (.bin 0) 0 0 (.fm f) k ∧ (tkA ts k).k = 5 ∧ k ≤ ts.length - 1 := by
  obtain ⟨ts2, p2, k, hL, hR, h5, hk, _⟩ := rdF_ok hl h rfl
  obtain ⟨rfl, _⟩ := lex_det hX hL
  exact ⟨k, hR, h5, hk⟩
theorem rdT_lex {m : Bool} {l : List UInt8} {ts : List Tok} {p : Nat} {f : Tm} (hl : l.length ≤ 16384) (hX : LexL 0 l ts p 0) (h : RdT m l (.ok f)) : ∃ k, Rd m ts .term 0 0 (.t f) k ∧ (tkA ts k).k = 5 ∧ k ≤ ts.length - 1 := by
  obtain ⟨ts2, p2, k, hL, hR, h5, hk, _⟩ := rdT_ok hl h rfl
  obtain ⟨rfl, _⟩ := lex_det hX hL
  exact ⟨k, hR, h5, hk⟩
theorem end_at {ts : List Tok} {z k : Nat} (hE : Ends ts z) (h5 : (tkA ts k).k = 5) : z ≤ k := by
  rcases Nat.lt_or_ge k z with h | h
  · have := (hE.mid k h).2; omega
  · exact h
theorem metas_no {ts : List Tok} (h : ts.any mtB = false) : ∀ k, (tkA ts k).k ≠ 2 := by
  intro k
  rcases Nat.lt_or_ge k ts.length with hk | hk
  · have h1 : ts[k]? = some (tkA ts k) := by unfold tkA; rw [List.getD_eq_getElem?_getD, List.getElem?_eq_getElem hk]; rfl
    have h2 := List.any_eq_false.1 h (tkA ts k) (List.mem_of_getElem? h1)
    simpa [mtB] using h2
  · unfold tkA
    rw [List.getD_eq_getElem?_getD, List.getElem?_eq_none hk]
    decide
theorem zN (p : Nat) (e : Int) : nodesF (anF (.bad p e)) ≤ 900000 := by show nodesF (.mk 0 ⟨#[]⟩ [] []) ≤ 900000; decide
theorem zT (p : Nat) (e : Int) : nodesT (anT (.bad p e)) ≤ 900000 := by show nodesT (.mk false ⟨#[]⟩ []) ≤ 900000; decide
theorem only_any (w : World) (s : ByteArray) (hz : s.size ≤ maxLen) (hL : LaidAll w) : Calls Tryd.prog 7 #[.string s] w (RetOk w) := by
  by_cases hl : 2500 < s.size
  · exact only_long w s hz hL hl
  have hl5 : s.size ≤ 2500 := by omega
  have hl6 : (bys s).length ≤ 16384 := by show s.size ≤ 16384; omega
  obtain ⟨ts, p, e, hX⟩ := lex_total _ (bys s) (Nat.le_refl _) 0
  by_cases he : e = 0
  case neg => exact only_bad w s hL hl5 ts p e hX he
  subst he
  have hT := tsok_of_lex hl6 hX
  obtain ⟨x1, hx1⟩ := run_total (metas := false) hT.en (10 * (ts.length - 1 - 0) + rank (.bin 0) + 1) (.bin 0) 0 0 (Nat.zero_le _) (by simp) (Nat.lt_succ_self _)
  obtain ⟨x3, hx3⟩ := run_total (metas := false) hT.en (10 * (ts.length - 1 - 0) + rank .term + 1) .term 0 0 (Nat.zero_le _) trivial (Nat.lt_succ_self _)
  have h1 : RdF false (bys s) (resF ts x1) := .read hX hx1
  have h3 : RdT false (bys s) (resT ts x3) := .read hX hx3
  have hf := fun W (hW : LaidAll W) => form_out W hW s hl6 h1
  have ht := fun W (hW : LaidAll W) => term_out W hW s hl6 h3
  have h3c := termA_cases hl6 h3
  obtain ⟨r1, hr1⟩ : ∃ r1, r1 = resF ts x1 := ⟨_, rfl⟩
  obtain ⟨r3, hr3⟩ : ∃ r3, r3 = resT ts x3 := ⟨_, rfl⟩
  rw [← hr1] at h1 hf
  rw [← hr3] at h3 ht h3c
  cases hM : ts.any mtB with
  | false =>
    have hno := metas_no hM
    have h2 : RdF true (bys s) r1 := by
      rw [hr1]
      exact .read hX (by rw [run_nometa (m' := false) hno]; exact hx1)
    have hc := fun W (hW : LaidAll W) => sch_out W hW s hl6 h2
    rcases formA_cases hl6 h1 with ⟨f, a1, rfl, a2, a3⟩ | ⟨p1, e1, a1, a2⟩
    · obtain ⟨k, b1, b2, b3⟩ := rdF_lex hl6 hX h1
      have hsch : schF f = true := by
        have := right_sch b1
        simp only [fmO] at this
        rw [this, a2]
      have hsa : schA (.ok f) = .ok f := by simp [schA, hsch]
      rcases h3c with ⟨t, c1, rfl, c2, c3⟩ | ⟨p3, e3, c1, c2⟩
      · obtain ⟨k2, d1, d2, d3⟩ := rdT_lex hl6 hX h3
        exact (only_one b1 d1).elim
      · rw [a1] at hf
        rw [hsa] at hc
        rw [c1] at ht
        exact only_a w s hL hl5 ts p hX hM rfl c2 a3 (zT _ _) a2 hsch hf hc ht
    · have hs2 : schA r1 = .bad p1 e1 := by
        cases r1 with
        | bad p e => exact a1
        | ok f =>
          obtain ⟨k, b1, b2, b3⟩ := rdF_lex hl6 hX h1
          have := right_sch b1
          simp only [fmO] at this
          simp only [schA, this]
          exact a1
      rw [a1] at hf
      rw [hs2] at hc
      rcases h3c with ⟨t, c1, rfl, c2, c3⟩ | ⟨p3, e3, c1, c2⟩
      · rw [c1] at ht
        exact only_b w s hL hl5 ts p hX hM a2 rfl (zN _ _) c3 c2 hf hc ht
      · rw [c1] at ht
        exact only_c w s hL hl5 ts p hX hM a2 c2 (zN _ _) (zT _ _) hf hc ht
  | true =>
    obtain ⟨x2, hx2⟩ := run_total (metas := true) hT.en (10 * (ts.length - 1 - 0) + rank (.bin 0) + 1) (.bin 0) 0 0 (Nat.zero_le _) (by simp) (Nat.lt_succ_self _)
    have h2 : RdF true (bys s) (resF ts x2) := .read hX hx2
    have hc := fun W (hW : LaidAll W) => sch_out W hW s hl6 h2
    have hmt := meta_text hX
    have hcon : ∀ {g : Gl} {o : Ob} {k : Nat}, Rd false ts g 0 0 o k → (tkA ts k).k = 5 → False := fun hR h5 => by
      obtain ⟨t, ht1, ht2⟩ := List.any_eq_true.1 hM
      exact no_meta hT.en hmt hR (end_at hT.en h5) t ht1 (by simpa [mtB] using ht2)
    rcases formA_cases hl6 h1 with ⟨f, a1, rfl, a2, a3⟩ | ⟨p1, e1, a1, a2⟩
    · obtain ⟨k, b1, b2, b3⟩ := rdF_lex hl6 hX h1
      exact (hcon b1 b2).elim
    · rw [a1] at hf
      rcases h3c with ⟨t, c1, rfl, c2, c3⟩ | ⟨p3, e3, c1, c2⟩
      · obtain ⟨k2, d1, d2, d3⟩ := rdT_lex hl6 hX h3
        exact (hcon d1 d2).elim
      · rw [c1] at ht
        rcases schA_cases hl6 h2 with ⟨g, b1, b2, b3, b4⟩ | ⟨p2, e2, b1, b2⟩
        · rw [b1] at hc
          exact only_d w s hL hl5 ts p hX hM a2 rfl c2 (zN _ _) b4 (zT _ _) b3 hf hc ht
        · rw [b1] at hc
          exact only_e w s hL hl5 ts p hX hM a2 b2 c2 (zN _ _) (zN _ _) (zT _ _) hf hc ht
end Go.Proofs.YtdobflpbkfkmgaaDoor
