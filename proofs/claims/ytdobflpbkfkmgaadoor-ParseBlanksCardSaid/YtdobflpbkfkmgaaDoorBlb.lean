/- ParseBlanks (8): the walk. pbla.py prints this text. -/
import Derived.Test.YtdobflpbkfkmgaaDoorBla
namespace Go.Proofs.YtdobflpbkfkmgaaDoor
open Go.RowKit Go.HK Go.FR
set_option linter.unusedVariables false
set_option linter.unusedSimpArgs false
set_option linter.unusedSectionVars false
set_option maxRecDepth 100000 in
set_option maxHeartbeats 4000000 in
theorem blanks_long (w : World) (s : ByteArray) (hz : s.size ≤ maxLen) (hL : LaidAll w) (hl : 2500 < s.size) : Calls Tryd.prog 8 #[.string s] w (RetOk w) := by
  have HA := Lib.hid (awake_any w hL.signs hL.levels hL.rows)
  unfold RetA1 at HA
  obtain ⟨n, hn⟩ : ∃ n, n = s.size := ⟨_, rfl⟩
  rw [← hn] at hl hz
  have hd : (2500 : Int) < (n : Int) := by omega
  have hn2 : s.size = n := hn.symm
  clear hL hz hl hn
  go_enter Tryd.func8, Tryd.ntmps8
  go_wp2_with (fail)
  go_at_call 9
  with_reducible refine HA.out.mono ?_
  rintro e w1 ⟨rfl, hB⟩
  go_wp2_with (fail)
  go_ret
  exact ⟨rfl, hB⟩
set_option maxRecDepth 100000 in
set_option maxHeartbeats 4000000 in
theorem blanks_bad (w : World) (s : ByteArray) (hL : LaidAll w) (hl : s.size ≤ 2500) (ts : List Tok) (p : Nat) (e : Int) (hX : LexL 0 (bys s) ts p e) (he : e ≠ 0) (h1 : ∀ W, LaidAll W → Calls Tryd.prog 21 #[.string s] W (fun E W' => Below W.heap.size W W' ∧ ∃ (o8 : Int) (nm : ByteArray) (aa : Option Addr) (an ac : Nat) (sa : Option Addr) (sn sc : Nat), E = .returned (.tuple #[.agg #[.int .u8 o8, .string nm, .slice aa an ac, .slice sa sn sc], .int .i64 (p : Int), .int .i64 e]))) : Calls Tryd.prog 8 #[.string s] w (RetOk w) := by
  have HA := Lib.hid (awake_any w hL.signs hL.levels hL.rows)
  unfold RetA1 at HA
  have HL := Lib.hid hL
  have hx := fun (W : World) (hW : LaidAll W) => (lex_any W s (by omega) hW.signs ts p e hX).mono (R' := fun E W' => E = .returned (.tuple #[.slice none 0 0, .int .i64 p, .int .i64 e]) ∧ Below W.heap.size W W') fun E W' ⟨hB, h⟩ => by
    rcases h with ⟨h0, _⟩ | ⟨_, h⟩
    · exact absurd h0 he
    · exact ⟨h, hB⟩
  have HX := Lib.hid hx
  have HC := Lib.hid h1
  obtain ⟨n, hn⟩ : ∃ n, n = s.size := ⟨_, rfl⟩
  rw [← hn] at hl
  have hd : ¬ (2500 : Int) < (n : Int) := by omega
  have hn2 : s.size = n := hn.symm
  have he1 : (e != 0) = true := by simp [he]
  clear hL hl hn hx h1 hX he
  go_enter Tryd.func8, Tryd.ntmps8
  go_wp2_with (fail)
  go_at_call 9
  with_reducible refine HA.out.mono ?_
  rintro _ w1 ⟨rfl, hB⟩
  have HB := Lib.hid hB
  clear hB
  go_wp2_with (fail)
  go_at_call 22
  with_reducible refine (HX.out _ (HL.out.below HB.out)).mono ?_
  rintro _ w2 ⟨rfl, hB⟩
  have HB := Lib.hid (HB.out.trans (hB.mono HB.out.size))
  clear hB
  go_wp2_with (fail)
  go_at_call 21
  with_reducible refine (HC.out _ (HL.out.below HB.out)).mono ?_
  rintro _ w3 ⟨hB, a0, a1, a2, a3, a4, a5, a6, a7, rfl⟩
  have HB := Lib.hid ((HB.out.trans (hB.mono HB.out.size)).alloc (HB.out.trans (hB.mono HB.out.size)).size (.cells #[.int .u8 a0, .string a1, .slice a2 a3 a4, .slice a5 a6 a7] 25))
  clear hB
  go_wp2_with (fail)
  go_ret
  exact ⟨rfl, HB.out⟩
set_option maxRecDepth 100000 in
set_option maxHeartbeats 8000000 in
theorem blanks_0 (w : World) (s : ByteArray) (hL : LaidAll w) (hl : s.size ≤ 2500) {ts us : List Tok} {q : Nat} (hX : LexL 0 (bys s) ts q 0) (hU : LexL 0 (joinL ts) us 0 0) (hul : us.length = ts.length)  {f : Fm} (hN : nodesF f ≤ 1000000)
    (h1 : ∀ W, LaidAll W → Calls Tryd.prog 21 #[.string s] W (fun E W' => Below W.heap.size W W' ∧ ∃ (o8 : Int) (nm : ByteArray) (aa : Option Addr) (an ac : Nat) (sa : Option Addr) (sn sc : Nat), E = .returned (.tuple #[.agg #[.int .u8 o8, .string nm, .slice aa an ac, .slice sa sn sc], .int .i64 (0 : Int), .int .i64 0]) ∧ FmV W' W.heap.size f (.agg #[.int .u8 o8, .string nm, .slice aa an ac, .slice sa sn sc]))) (h2 : ∀ W, LaidAll W → Calls Tryd.prog 21 #[.string (mkS (joinL ts))] W (fun E W' => Below W.heap.size W W' ∧ ∃ (o8 : Int) (nm : ByteArray) (aa : Option Addr) (an ac : Nat) (sa : Option Addr) (sn sc : Nat), E = .returned (.tuple #[.agg #[.int .u8 o8, .string nm, .slice aa an ac, .slice sa sn sc], .int .i64 (0 : Int), .int .i64 0]) ∧ FmV W' W.heap.size f (.agg #[.int .u8 o8, .string nm, .slice aa an ac, .slice sa sn sc]))) : Calls Tryd.prog 8 #[.string s] w (RetOk w) := by
  have HA := Lib.hid (awake_any w hL.signs hL.levels hL.rows)
  unfold RetA1 at HA
  have HL := Lib.hid hL
  have hT := tsok_of_lex (l := bys s) (by show s.size ≤ 16384; omega) hX
  have hj := (join_len hX).1
  have hbs : (bys s).length = s.size := rfl
  have hx := fun (W : World) (hW : LaidAll W) => lexT_any W s (by omega) hW.signs ts q hX
  have hx2 := fun (W : World) (hW : LaidAll W) => lexT_any W (mkS (joinL ts)) (by rw [mk_size]; omega) hW.signs us 0 (by rw [bys_mk]; exact hU)
  have hjn := fun (W : World) (g c : Nat) (h : TK W g ts) (hg : g < W.heap.size) => join_tk W g c ts h hg (by have := hT.en.len; have := hT.le; omega) (by omega)
  rw [hul] at hx2
  have HX := Lib.hid hx
  have HX2 := Lib.hid hx2
  have HJ := Lib.hid hjn
  have HC := Lib.hid h1
  have HC2 := Lib.hid h2
  have HN := Lib.hid hN
  obtain ⟨js, hjs⟩ : ∃ js, js = mkS (joinL ts) := ⟨_, rfl⟩
  rw [← hjs] at HX2 HC2
  simp only [← hjs] at HJ
  obtain ⟨n, hn⟩ : ∃ n, n = s.size := ⟨_, rfl⟩
  rw [← hn] at hl
  have hd : ¬ (2500 : Int) < (n : Int) := by omega
  have hn2 : s.size = n := hn.symm
  obtain ⟨nl, hnl⟩ : ∃ nl, nl = ts.length := ⟨_, rfl⟩
  have hnl2 : nl ≤ 20000 := by have := hT.en.len; have := hT.le; omega
  simp only [← hnl] at HX HX2 HJ
  have HNL := Lib.hid hnl
  have HUL := Lib.hid (hul.trans hnl.symm)
  skip
  clear hL hl hn hx hx2 hjn h1 h2 hX hU hT hj hbs hjs hul hN hnl
  go_enter Tryd.func8, Tryd.ntmps8
  go_wp2_with (fail)
  go_at_call 9
  with_reducible refine HA.out.mono ?_
  rintro _ w1 ⟨rfl, hB⟩
  have HB := Lib.hid hB
  clear hB
  go_wp2_with (fail)
  go_at_call 22
  with_reducible refine (HX.out _ (HL.out.below HB.out)).mono ?_
  rintro _ w2 ⟨hB, g, c, rfl, _, hg2, hTK⟩
  have HB := Lib.hid (HB.out.trans (hB.mono HB.out.size))
  have HTK := Lib.hid hTK
  have HG := Lib.hid hg2
  clear hB hg2 hTK
  go_wp2_with (fail)
  go_at_call 21
  with_reducible refine (HC.out _ (HL.out.below HB.out)).mono ?_
  rintro _ w3 ⟨hB, a0, a1, a2, a3, a4, a5, a6, a7, rfl, hv⟩
  have HTK := Lib.hid ((HTK.out.turn (hB.block g HG.out)).turn ((bl_al9 (.cells #[.int .u8 a0, .string a1, .slice a2 a3 a4, .slice a5 a6 a7] 25)).block g (Nat.lt_of_lt_of_le HG.out hB.size)))
  have HG := Lib.hid (show g < (w3.alloc (.cells #[.int .u8 a0, .string a1, .slice a2 a3 a4, .slice a5 a6 a7] 25)).heap.size by simp only [World.size_alloc]; have := HG.out; have := hB.size; omega)
  have FA := Lib.hid (hv.up (bl_al9 (.cells #[.int .u8 a0, .string a1, .slice a2 a3 a4, .slice a5 a6 a7] 25)))
  have KA := Lib.hid (HK.blk_new w3 (.cells #[.int .u8 a0, .string a1, .slice a2 a3 a4, .slice a5 a6 a7] 25))
  have HB := Lib.hid ((HB.out.trans (hB.mono HB.out.size)).alloc (HB.out.trans (hB.mono HB.out.size)).size (.cells #[.int .u8 a0, .string a1, .slice a2 a3 a4, .slice a5 a6 a7] 25))
  clear hB hv
  go_wp2_with (fail)
  go_at_call 27
  with_reducible refine (HJ.out _ g c HTK.out HG.out).mono ?_
  rintro _ w4 ⟨rfl, hB⟩
  have HTK := Lib.hid (HTK.out.turn (hB.block g HG.out))
  have HG := Lib.hid (Nat.lt_of_lt_of_le HG.out hB.size)
  have FA := Lib.hid (FA.out.up hB)
  have KA := Lib.hid ((hB.block _ (HK.blk_lt KA.out)).trans KA.out)
  have HB := Lib.hid (HB.out.trans (hB.mono HB.out.size))
  clear hB
  go_wp2_with (fail)
  go_at_call 22
  with_reducible refine (HX2.out _ (HL.out.below HB.out)).mono ?_
  rintro _ w5 ⟨hB, g2, c2, rfl, _, hg2, hTU⟩
  have HTK := Lib.hid (HTK.out.turn (hB.block g HG.out))
  have HG := Lib.hid (Nat.lt_of_lt_of_le HG.out hB.size)
  have HTU := Lib.hid hTU
  have HG2 := Lib.hid hg2
  have FA := Lib.hid (FA.out.up hB)
  have KA := Lib.hid ((hB.block _ (HK.blk_lt KA.out)).trans KA.out)
  have HB := Lib.hid (HB.out.trans (hB.mono HB.out.size))
  clear hB hg2 hTU
  go_wp2_with (fail)
  go_at_call 21
  with_reducible refine (HC2.out _ (HL.out.below HB.out)).mono ?_
  rintro _ w6 ⟨hB, b0, b1, b2, b3, b4, b5, b6, b7, rfl, hv⟩
  have HTK := Lib.hid ((HTK.out.turn (hB.block g HG.out)).turn ((bl_al9 (.cells #[.int .u8 b0, .string b1, .slice b2 b3 b4, .slice b5 b6 b7] 25)).block g (Nat.lt_of_lt_of_le HG.out hB.size)))
  have HTU := Lib.hid ((HTU.out.turn (hB.block g2 HG2.out)).turn ((bl_al9 (.cells #[.int .u8 b0, .string b1, .slice b2 b3 b4, .slice b5 b6 b7] 25)).block g2 (Nat.lt_of_lt_of_le HG2.out hB.size)))
  have HG := Lib.hid (show g < (w6.alloc (.cells #[.int .u8 b0, .string b1, .slice b2 b3 b4, .slice b5 b6 b7] 25)).heap.size by simp only [World.size_alloc]; have := HG.out; have := hB.size; omega)
  have HG2 := Lib.hid (show g2 < (w6.alloc (.cells #[.int .u8 b0, .string b1, .slice b2 b3 b4, .slice b5 b6 b7] 25)).heap.size by simp only [World.size_alloc]; have := HG2.out; have := hB.size; omega)
  have FA := Lib.hid ((FA.out.up hB).up (bl_al9 (.cells #[.int .u8 b0, .string b1, .slice b2 b3 b4, .slice b5 b6 b7] 25)))
  have hKA := HK.blk_alloc ((hB.block _ (HK.blk_lt KA.out)).trans KA.out) (.cells #[.int .u8 b0, .string b1, .slice b2 b3 b4, .slice b5 b6 b7] 25)
  have FB := Lib.hid (hv.up (bl_al9 (.cells #[.int .u8 b0, .string b1, .slice b2 b3 b4, .slice b5 b6 b7] 25)))
  have hKB := HK.blk_new w6 (.cells #[.int .u8 b0, .string b1, .slice b2 b3 b4, .slice b5 b6 b7] 25)
  have HB := Lib.hid ((HB.out.trans (hB.mono HB.out.size)).alloc (HB.out.trans (hB.mono HB.out.size)).size (.cells #[.int .u8 b0, .string b1, .slice b2 b3 b4, .slice b5 b6 b7] 25))
  have x0 := HK.blk_cell hKA 0
  have x1 := HK.blk_cell hKA 1
  have x2 := HK.blk_cell hKA 2
  have x3 := HK.blk_cell hKA 3
  have hcall := same_v FA.out FB.out HN.out
  unfold RetY at hcall
  have HCC := Lib.hid hcall
  have KA := Lib.hid hKA
  clear hB hv hKA hKB hcall
  go_wp2_with (fail)
  go_at_call 16
  with_reducible refine HCC.out.mono ?_
  rintro _ w7 ⟨rfl, hB⟩
  have HTK := Lib.hid (HTK.out.turn (hB.block g HG.out))
  have HTU := Lib.hid (HTU.out.turn (hB.block g2 HG2.out))
  have HG := Lib.hid (Nat.lt_of_lt_of_le HG.out hB.size)
  have HG2 := Lib.hid (Nat.lt_of_lt_of_le HG2.out hB.size)
  have HB := Lib.hid (HB.out.trans (hB.mono HB.out.size))
  clear hB x0 x1 x2 x3
  go_wp2_with (fail)
  go_ret
  exact ⟨rfl, HB.out⟩
set_option maxRecDepth 100000 in
set_option maxHeartbeats 8000000 in
theorem blanks_3 (w : World) (s : ByteArray) (hL : LaidAll w) (hl : s.size ≤ 2500) {ts us : List Tok} {q : Nat} (hX : LexL 0 (bys s) ts q 0) (hU : LexL 0 (joinL ts) us 0 0) (hul : us.length = ts.length)  {f : Fm} (hN : nodesF f ≤ 1000000)
    (h1 : ∀ W, LaidAll W → Calls Tryd.prog 21 #[.string s] W (fun E W' => Below W.heap.size W W' ∧ ∃ (o8 : Int) (nm : ByteArray) (aa : Option Addr) (an ac : Nat) (sa : Option Addr) (sn sc : Nat), E = .returned (.tuple #[.agg #[.int .u8 o8, .string nm, .slice aa an ac, .slice sa sn sc], .int .i64 (0 : Int), .int .i64 3]) ∧ FmV W' W.heap.size f (.agg #[.int .u8 o8, .string nm, .slice aa an ac, .slice sa sn sc]))) (h2 : ∀ W, LaidAll W → Calls Tryd.prog 21 #[.string (mkS (joinL ts))] W (fun E W' => Below W.heap.size W W' ∧ ∃ (o8 : Int) (nm : ByteArray) (aa : Option Addr) (an ac : Nat) (sa : Option Addr) (sn sc : Nat), E = .returned (.tuple #[.agg #[.int .u8 o8, .string nm, .slice aa an ac, .slice sa sn sc], .int .i64 (0 : Int), .int .i64 3]) ∧ FmV W' W.heap.size f (.agg #[.int .u8 o8, .string nm, .slice aa an ac, .slice sa sn sc]))) : Calls Tryd.prog 8 #[.string s] w (RetOk w) := by
  have HA := Lib.hid (awake_any w hL.signs hL.levels hL.rows)
  unfold RetA1 at HA
  have HL := Lib.hid hL
  have hT := tsok_of_lex (l := bys s) (by show s.size ≤ 16384; omega) hX
  have hj := (join_len hX).1
  have hbs : (bys s).length = s.size := rfl
  have hx := fun (W : World) (hW : LaidAll W) => lexT_any W s (by omega) hW.signs ts q hX
  have hx2 := fun (W : World) (hW : LaidAll W) => lexT_any W (mkS (joinL ts)) (by rw [mk_size]; omega) hW.signs us 0 (by rw [bys_mk]; exact hU)
  have hjn := fun (W : World) (g c : Nat) (h : TK W g ts) (hg : g < W.heap.size) => join_tk W g c ts h hg (by have := hT.en.len; have := hT.le; omega) (by omega)
  rw [hul] at hx2
  have HX := Lib.hid hx
  have HX2 := Lib.hid hx2
  have HJ := Lib.hid hjn
  have HC := Lib.hid h1
  have HC2 := Lib.hid h2
  have HN := Lib.hid hN
  obtain ⟨js, hjs⟩ : ∃ js, js = mkS (joinL ts) := ⟨_, rfl⟩
  rw [← hjs] at HX2 HC2
  simp only [← hjs] at HJ
  obtain ⟨n, hn⟩ : ∃ n, n = s.size := ⟨_, rfl⟩
  rw [← hn] at hl
  have hd : ¬ (2500 : Int) < (n : Int) := by omega
  have hn2 : s.size = n := hn.symm
  obtain ⟨nl, hnl⟩ : ∃ nl, nl = ts.length := ⟨_, rfl⟩
  have hnl2 : nl ≤ 20000 := by have := hT.en.len; have := hT.le; omega
  simp only [← hnl] at HX HX2 HJ
  have HNL := Lib.hid hnl
  have HUL := Lib.hid (hul.trans hnl.symm)
  skip
  clear hL hl hn hx hx2 hjn h1 h2 hX hU hT hj hbs hjs hul hN hnl
  go_enter Tryd.func8, Tryd.ntmps8
  go_wp2_with (fail)
  go_at_call 9
  with_reducible refine HA.out.mono ?_
  rintro _ w1 ⟨rfl, hB⟩
  have HB := Lib.hid hB
  clear hB
  go_wp2_with (fail)
  go_at_call 22
  with_reducible refine (HX.out _ (HL.out.below HB.out)).mono ?_
  rintro _ w2 ⟨hB, g, c, rfl, _, hg2, hTK⟩
  have HB := Lib.hid (HB.out.trans (hB.mono HB.out.size))
  have HTK := Lib.hid hTK
  have HG := Lib.hid hg2
  clear hB hg2 hTK
  go_wp2_with (fail)
  go_at_call 21
  with_reducible refine (HC.out _ (HL.out.below HB.out)).mono ?_
  rintro _ w3 ⟨hB, a0, a1, a2, a3, a4, a5, a6, a7, rfl, hv⟩
  have HTK := Lib.hid ((HTK.out.turn (hB.block g HG.out)).turn ((bl_al9 (.cells #[.int .u8 a0, .string a1, .slice a2 a3 a4, .slice a5 a6 a7] 25)).block g (Nat.lt_of_lt_of_le HG.out hB.size)))
  have HG := Lib.hid (show g < (w3.alloc (.cells #[.int .u8 a0, .string a1, .slice a2 a3 a4, .slice a5 a6 a7] 25)).heap.size by simp only [World.size_alloc]; have := HG.out; have := hB.size; omega)
  have FA := Lib.hid (hv.up (bl_al9 (.cells #[.int .u8 a0, .string a1, .slice a2 a3 a4, .slice a5 a6 a7] 25)))
  have KA := Lib.hid (HK.blk_new w3 (.cells #[.int .u8 a0, .string a1, .slice a2 a3 a4, .slice a5 a6 a7] 25))
  have HB := Lib.hid ((HB.out.trans (hB.mono HB.out.size)).alloc (HB.out.trans (hB.mono HB.out.size)).size (.cells #[.int .u8 a0, .string a1, .slice a2 a3 a4, .slice a5 a6 a7] 25))
  clear hB hv
  go_wp2_with (fail)
  go_at_call 27
  with_reducible refine (HJ.out _ g c HTK.out HG.out).mono ?_
  rintro _ w4 ⟨rfl, hB⟩
  have HTK := Lib.hid (HTK.out.turn (hB.block g HG.out))
  have HG := Lib.hid (Nat.lt_of_lt_of_le HG.out hB.size)
  have FA := Lib.hid (FA.out.up hB)
  have KA := Lib.hid ((hB.block _ (HK.blk_lt KA.out)).trans KA.out)
  have HB := Lib.hid (HB.out.trans (hB.mono HB.out.size))
  clear hB
  go_wp2_with (fail)
  go_at_call 22
  with_reducible refine (HX2.out _ (HL.out.below HB.out)).mono ?_
  rintro _ w5 ⟨hB, g2, c2, rfl, _, hg2, hTU⟩
  have HTK := Lib.hid (HTK.out.turn (hB.block g HG.out))
  have HG := Lib.hid (Nat.lt_of_lt_of_le HG.out hB.size)
  have HTU := Lib.hid hTU
  have HG2 := Lib.hid hg2
  have FA := Lib.hid (FA.out.up hB)
  have KA := Lib.hid ((hB.block _ (HK.blk_lt KA.out)).trans KA.out)
  have HB := Lib.hid (HB.out.trans (hB.mono HB.out.size))
  clear hB hg2 hTU
  go_wp2_with (fail)
  go_at_call 21
  with_reducible refine (HC2.out _ (HL.out.below HB.out)).mono ?_
  rintro _ w6 ⟨hB, b0, b1, b2, b3, b4, b5, b6, b7, rfl, hv⟩
  have HTK := Lib.hid ((HTK.out.turn (hB.block g HG.out)).turn ((bl_al9 (.cells #[.int .u8 b0, .string b1, .slice b2 b3 b4, .slice b5 b6 b7] 25)).block g (Nat.lt_of_lt_of_le HG.out hB.size)))
  have HTU := Lib.hid ((HTU.out.turn (hB.block g2 HG2.out)).turn ((bl_al9 (.cells #[.int .u8 b0, .string b1, .slice b2 b3 b4, .slice b5 b6 b7] 25)).block g2 (Nat.lt_of_lt_of_le HG2.out hB.size)))
  have HG := Lib.hid (show g < (w6.alloc (.cells #[.int .u8 b0, .string b1, .slice b2 b3 b4, .slice b5 b6 b7] 25)).heap.size by simp only [World.size_alloc]; have := HG.out; have := hB.size; omega)
  have HG2 := Lib.hid (show g2 < (w6.alloc (.cells #[.int .u8 b0, .string b1, .slice b2 b3 b4, .slice b5 b6 b7] 25)).heap.size by simp only [World.size_alloc]; have := HG2.out; have := hB.size; omega)
  have FA := Lib.hid ((FA.out.up hB).up (bl_al9 (.cells #[.int .u8 b0, .string b1, .slice b2 b3 b4, .slice b5 b6 b7] 25)))
  have hKA := HK.blk_alloc ((hB.block _ (HK.blk_lt KA.out)).trans KA.out) (.cells #[.int .u8 b0, .string b1, .slice b2 b3 b4, .slice b5 b6 b7] 25)
  have FB := Lib.hid (hv.up (bl_al9 (.cells #[.int .u8 b0, .string b1, .slice b2 b3 b4, .slice b5 b6 b7] 25)))
  have hKB := HK.blk_new w6 (.cells #[.int .u8 b0, .string b1, .slice b2 b3 b4, .slice b5 b6 b7] 25)
  have HB := Lib.hid ((HB.out.trans (hB.mono HB.out.size)).alloc (HB.out.trans (hB.mono HB.out.size)).size (.cells #[.int .u8 b0, .string b1, .slice b2 b3 b4, .slice b5 b6 b7] 25))
  have x0 := HK.blk_cell hKA 0
  have x1 := HK.blk_cell hKA 1
  have x2 := HK.blk_cell hKA 2
  have x3 := HK.blk_cell hKA 3
  have hcall := same_v FA.out FB.out HN.out
  unfold RetY at hcall
  have HCC := Lib.hid hcall
  have KA := Lib.hid hKA
  clear hB hv hKA hKB hcall
  go_wp2_with (fail)
  go_at_call 16
  with_reducible refine HCC.out.mono ?_
  rintro _ w7 ⟨rfl, hB⟩
  have HTK := Lib.hid (HTK.out.turn (hB.block g HG.out))
  have HTU := Lib.hid (HTU.out.turn (hB.block g2 HG2.out))
  have HG := Lib.hid (Nat.lt_of_lt_of_le HG.out hB.size)
  have HG2 := Lib.hid (Nat.lt_of_lt_of_le HG2.out hB.size)
  have HB := Lib.hid (HB.out.trans (hB.mono HB.out.size))
  clear hB x0 x1 x2 x3
  go_wp2_with (fail)
  go_ret
  exact ⟨rfl, HB.out⟩
set_option maxRecDepth 100000 in
set_option maxHeartbeats 8000000 in
theorem blanks_50 (w : World) (s : ByteArray) (hL : LaidAll w) (hl : s.size ≤ 2500) {ts us : List Tok} {q : Nat} (hX : LexL 0 (bys s) ts q 0) (hU : LexL 0 (joinL ts) us 0 0) (hul : us.length = ts.length) {K : Nat} {t u : Tok} (ht : ts[K]? = some t) (hu : us[K]? = some u) {f : Fm} (hN : nodesF f ≤ 1000000)
    (h1 : ∀ W, LaidAll W → Calls Tryd.prog 21 #[.string s] W (fun E W' => Below W.heap.size W W' ∧ ∃ (o8 : Int) (nm : ByteArray) (aa : Option Addr) (an ac : Nat) (sa : Option Addr) (sn sc : Nat), E = .returned (.tuple #[.agg #[.int .u8 o8, .string nm, .slice aa an ac, .slice sa sn sc], .int .i64 (t.p : Int), .int .i64 50]) ∧ FmV W' W.heap.size f (.agg #[.int .u8 o8, .string nm, .slice aa an ac, .slice sa sn sc]))) (h2 : ∀ W, LaidAll W → Calls Tryd.prog 21 #[.string (mkS (joinL ts))] W (fun E W' => Below W.heap.size W W' ∧ ∃ (o8 : Int) (nm : ByteArray) (aa : Option Addr) (an ac : Nat) (sa : Option Addr) (sn sc : Nat), E = .returned (.tuple #[.agg #[.int .u8 o8, .string nm, .slice aa an ac, .slice sa sn sc], .int .i64 (u.p : Int), .int .i64 50]) ∧ FmV W' W.heap.size f (.agg #[.int .u8 o8, .string nm, .slice aa an ac, .slice sa sn sc]))) : Calls Tryd.prog 8 #[.string s] w (RetOk w) := by
  have HA := Lib.hid (awake_any w hL.signs hL.levels hL.rows)
  unfold RetA1 at HA
  have HL := Lib.hid hL
  have hT := tsok_of_lex (l := bys s) (by show s.size ≤ 16384; omega) hX
  have hj := (join_len hX).1
  have hbs : (bys s).length = s.size := rfl
  have hx := fun (W : World) (hW : LaidAll W) => lexT_any W s (by omega) hW.signs ts q hX
  have hx2 := fun (W : World) (hW : LaidAll W) => lexT_any W (mkS (joinL ts)) (by rw [mk_size]; omega) hW.signs us 0 (by rw [bys_mk]; exact hU)
  have hjn := fun (W : World) (g c : Nat) (h : TK W g ts) (hg : g < W.heap.size) => join_tk W g c ts h hg (by have := hT.en.len; have := hT.le; omega) (by omega)
  rw [hul] at hx2
  have HX := Lib.hid hx
  have HX2 := Lib.hid hx2
  have HJ := Lib.hid hjn
  have HC := Lib.hid h1
  have HC2 := Lib.hid h2
  have HN := Lib.hid hN
  have HGR := Lib.hid (lex_grow hX)
  have HTT := Lib.hid ht
  have HUU := Lib.hid hu
  have hkt := (List.getElem?_eq_some_iff.1 ht).1
  obtain ⟨js, hjs⟩ : ∃ js, js = mkS (joinL ts) := ⟨_, rfl⟩
  rw [← hjs] at HX2 HC2
  simp only [← hjs] at HJ
  obtain ⟨n, hn⟩ : ∃ n, n = s.size := ⟨_, rfl⟩
  rw [← hn] at hl
  have hd : ¬ (2500 : Int) < (n : Int) := by omega
  have hn2 : s.size = n := hn.symm
  obtain ⟨nl, hnl⟩ : ∃ nl, nl = ts.length := ⟨_, rfl⟩
  have hnl2 : nl ≤ 20000 := by have := hT.en.len; have := hT.le; omega
  simp only [← hnl] at HX HX2 HJ
  have HNL := Lib.hid hnl
  have HUL := Lib.hid (hul.trans hnl.symm)
  have hKl : K < nl := by omega
  clear hL hl hn hx hx2 hjn h1 h2 hX hU hT hj hbs hjs hul hN ht hu hkt hnl
  go_enter Tryd.func8, Tryd.ntmps8
  go_wp2_with (fail)
  go_at_call 9
  with_reducible refine HA.out.mono ?_
  rintro _ w1 ⟨rfl, hB⟩
  have HB := Lib.hid hB
  clear hB
  go_wp2_with (fail)
  go_at_call 22
  with_reducible refine (HX.out _ (HL.out.below HB.out)).mono ?_
  rintro _ w2 ⟨hB, g, c, rfl, _, hg2, hTK⟩
  have HB := Lib.hid (HB.out.trans (hB.mono HB.out.size))
  have HTK := Lib.hid hTK
  have HG := Lib.hid hg2
  clear hB hg2 hTK
  go_wp2_with (fail)
  go_at_call 21
  with_reducible refine (HC.out _ (HL.out.below HB.out)).mono ?_
  rintro _ w3 ⟨hB, a0, a1, a2, a3, a4, a5, a6, a7, rfl, hv⟩
  have HTK := Lib.hid ((HTK.out.turn (hB.block g HG.out)).turn ((bl_al9 (.cells #[.int .u8 a0, .string a1, .slice a2 a3 a4, .slice a5 a6 a7] 25)).block g (Nat.lt_of_lt_of_le HG.out hB.size)))
  have HG := Lib.hid (show g < (w3.alloc (.cells #[.int .u8 a0, .string a1, .slice a2 a3 a4, .slice a5 a6 a7] 25)).heap.size by simp only [World.size_alloc]; have := HG.out; have := hB.size; omega)
  have FA := Lib.hid (hv.up (bl_al9 (.cells #[.int .u8 a0, .string a1, .slice a2 a3 a4, .slice a5 a6 a7] 25)))
  have KA := Lib.hid (HK.blk_new w3 (.cells #[.int .u8 a0, .string a1, .slice a2 a3 a4, .slice a5 a6 a7] 25))
  have HB := Lib.hid ((HB.out.trans (hB.mono HB.out.size)).alloc (HB.out.trans (hB.mono HB.out.size)).size (.cells #[.int .u8 a0, .string a1, .slice a2 a3 a4, .slice a5 a6 a7] 25))
  clear hB hv
  go_wp2_with (fail)
  go_at_call 27
  with_reducible refine (HJ.out _ g c HTK.out HG.out).mono ?_
  rintro _ w4 ⟨rfl, hB⟩
  have HTK := Lib.hid (HTK.out.turn (hB.block g HG.out))
  have HG := Lib.hid (Nat.lt_of_lt_of_le HG.out hB.size)
  have FA := Lib.hid (FA.out.up hB)
  have KA := Lib.hid ((hB.block _ (HK.blk_lt KA.out)).trans KA.out)
  have HB := Lib.hid (HB.out.trans (hB.mono HB.out.size))
  clear hB
  go_wp2_with (fail)
  go_at_call 22
  with_reducible refine (HX2.out _ (HL.out.below HB.out)).mono ?_
  rintro _ w5 ⟨hB, g2, c2, rfl, _, hg2, hTU⟩
  have HTK := Lib.hid (HTK.out.turn (hB.block g HG.out))
  have HG := Lib.hid (Nat.lt_of_lt_of_le HG.out hB.size)
  have HTU := Lib.hid hTU
  have HG2 := Lib.hid hg2
  have FA := Lib.hid (FA.out.up hB)
  have KA := Lib.hid ((hB.block _ (HK.blk_lt KA.out)).trans KA.out)
  have HB := Lib.hid (HB.out.trans (hB.mono HB.out.size))
  clear hB hg2 hTU
  go_wp2_with (fail)
  go_at_call 21
  with_reducible refine (HC2.out _ (HL.out.below HB.out)).mono ?_
  rintro _ w6 ⟨hB, b0, b1, b2, b3, b4, b5, b6, b7, rfl, hv⟩
  have HTK := Lib.hid ((HTK.out.turn (hB.block g HG.out)).turn ((bl_al9 (.cells #[.int .u8 b0, .string b1, .slice b2 b3 b4, .slice b5 b6 b7] 25)).block g (Nat.lt_of_lt_of_le HG.out hB.size)))
  have HTU := Lib.hid ((HTU.out.turn (hB.block g2 HG2.out)).turn ((bl_al9 (.cells #[.int .u8 b0, .string b1, .slice b2 b3 b4, .slice b5 b6 b7] 25)).block g2 (Nat.lt_of_lt_of_le HG2.out hB.size)))
  have HG := Lib.hid (show g < (w6.alloc (.cells #[.int .u8 b0, .string b1, .slice b2 b3 b4, .slice b5 b6 b7] 25)).heap.size by simp only [World.size_alloc]; have := HG.out; have := hB.size; omega)
  have HG2 := Lib.hid (show g2 < (w6.alloc (.cells #[.int .u8 b0, .string b1, .slice b2 b3 b4, .slice b5 b6 b7] 25)).heap.size by simp only [World.size_alloc]; have := HG2.out; have := hB.size; omega)
  have FA := Lib.hid ((FA.out.up hB).up (bl_al9 (.cells #[.int .u8 b0, .string b1, .slice b2 b3 b4, .slice b5 b6 b7] 25)))
  have hKA := HK.blk_alloc ((hB.block _ (HK.blk_lt KA.out)).trans KA.out) (.cells #[.int .u8 b0, .string b1, .slice b2 b3 b4, .slice b5 b6 b7] 25)
  have FB := Lib.hid (hv.up (bl_al9 (.cells #[.int .u8 b0, .string b1, .slice b2 b3 b4, .slice b5 b6 b7] 25)))
  have hKB := HK.blk_new w6 (.cells #[.int .u8 b0, .string b1, .slice b2 b3 b4, .slice b5 b6 b7] 25)
  have HB := Lib.hid ((HB.out.trans (hB.mono HB.out.size)).alloc (HB.out.trans (hB.mono HB.out.size)).size (.cells #[.int .u8 b0, .string b1, .slice b2 b3 b4, .slice b5 b6 b7] 25))
  have x0 := HK.blk_cell hKA 0
  have x1 := HK.blk_cell hKA 1
  have x2 := HK.blk_cell hKA 2
  have x3 := HK.blk_cell hKA 3
  have hcall := same_v FA.out FB.out HN.out
  unfold RetY at hcall
  have HCC := Lib.hid hcall
  have KA := Lib.hid hKA
  clear hB hv hKA hKB hcall
  go_wp2_with (fail)
  go_at_call 16
  with_reducible refine HCC.out.mono ?_
  rintro _ w7 ⟨rfl, hB⟩
  have HTK := Lib.hid (HTK.out.turn (hB.block g HG.out))
  have HTU := Lib.hid (HTU.out.turn (hB.block g2 HG2.out))
  have HG := Lib.hid (Nat.lt_of_lt_of_le HG.out hB.size)
  have HG2 := Lib.hid (Nat.lt_of_lt_of_le HG2.out hB.size)
  have HB := Lib.hid (HB.out.trans (hB.mono HB.out.size))
  clear hB x0 x1 x2 x3
  go_wp2_with (fail)
  go_loopw [16] (fun i wr => ∃ j : Nat, j ≤ K ∧ i = .int .i64 j ∧ Below w7.heap.size w7 wr) (fun i _ => nl - (intOf i).toNat)
  case atStart => exact ⟨0, by omega, rfl, Below.refl _ _⟩
  case round =>
    obtain ⟨j, hj, rfl, hB⟩ := hrel
    have HBR := Lib.hid hB
    have hjn : (j : Int) < (nl : Int) := by omega
    have j0 : (0 : Int) ≤ (j : Int) := by omega
    by_cases hjK : j < K
    · obtain ⟨v, htj⟩ : ∃ v, ts[j]? = some v := ⟨_, List.getElem?_eq_getElem (by rw [← HNL.out]; omega)⟩
      have hc2 := (hB.cell (p := ⟨g, j * 3 + 2, none⟩) HG.out).trans (HTK.out.c2 j v htj)
      have hlt := HGR.out j K v _ hjK htj HTT.out
      obtain ⟨vp, hvp⟩ : ∃ vp, vp = v.p := ⟨_, rfl⟩
      obtain ⟨tp, htp⟩ : ∃ tp, tp = t.p := ⟨_, rfl⟩
      rw [← hvp] at hc2 hlt
      rw [← htp] at hlt
      simp only [← htp]
      have hne : ((vp : Int) == (tp : Int)) = false := by simp; omega
      clear hvp htp hlt htj hB
      go_wp2_with (fail)
      go_roundw
      case rel => exact ⟨j + 1, by omega, by go_num, HBR.out⟩
      case measure => simp [intOf]; omega
    · obtain rfl : j = K := by omega
      have hc2 := (hB.cell (p := ⟨g, j * 3 + 2, none⟩) HG.out).trans (HTK.out.c2 j _ HTT.out)
      have hd2 := (hB.cell (p := ⟨g2, j * 3 + 2, none⟩) HG2.out).trans (HTU.out.c2 j _ HUU.out)
      have HBF := Lib.hid (HB.out.trans (hB.mono HB.out.size))
      clear hB
      go_wp2_with (fail)
      go_ret
      exact ⟨rfl, HBF.out⟩
set_option maxRecDepth 100000 in
set_option maxHeartbeats 8000000 in
theorem blanks_51 (w : World) (s : ByteArray) (hL : LaidAll w) (hl : s.size ≤ 2500) {ts us : List Tok} {q : Nat} (hX : LexL 0 (bys s) ts q 0) (hU : LexL 0 (joinL ts) us 0 0) (hul : us.length = ts.length) {K : Nat} {t u : Tok} (ht : ts[K]? = some t) (hu : us[K]? = some u) {f : Fm} (hN : nodesF f ≤ 1000000)
    (h1 : ∀ W, LaidAll W → Calls Tryd.prog 21 #[.string s] W (fun E W' => Below W.heap.size W W' ∧ ∃ (o8 : Int) (nm : ByteArray) (aa : Option Addr) (an ac : Nat) (sa : Option Addr) (sn sc : Nat), E = .returned (.tuple #[.agg #[.int .u8 o8, .string nm, .slice aa an ac, .slice sa sn sc], .int .i64 (t.p : Int), .int .i64 51]) ∧ FmV W' W.heap.size f (.agg #[.int .u8 o8, .string nm, .slice aa an ac, .slice sa sn sc]))) (h2 : ∀ W, LaidAll W → Calls Tryd.prog 21 #[.string (mkS (joinL ts))] W (fun E W' => Below W.heap.size W W' ∧ ∃ (o8 : Int) (nm : ByteArray) (aa : Option Addr) (an ac : Nat) (sa : Option Addr) (sn sc : Nat), E = .returned (.tuple #[.agg #[.int .u8 o8, .string nm, .slice aa an ac, .slice sa sn sc], .int .i64 (u.p : Int), .int .i64 51]) ∧ FmV W' W.heap.size f (.agg #[.int .u8 o8, .string nm, .slice aa an ac, .slice sa sn sc]))) : Calls Tryd.prog 8 #[.string s] w (RetOk w) := by
  have HA := Lib.hid (awake_any w hL.signs hL.levels hL.rows)
  unfold RetA1 at HA
  have HL := Lib.hid hL
  have hT := tsok_of_lex (l := bys s) (by show s.size ≤ 16384; omega) hX
  have hj := (join_len hX).1
  have hbs : (bys s).length = s.size := rfl
  have hx := fun (W : World) (hW : LaidAll W) => lexT_any W s (by omega) hW.signs ts q hX
  have hx2 := fun (W : World) (hW : LaidAll W) => lexT_any W (mkS (joinL ts)) (by rw [mk_size]; omega) hW.signs us 0 (by rw [bys_mk]; exact hU)
  have hjn := fun (W : World) (g c : Nat) (h : TK W g ts) (hg : g < W.heap.size) => join_tk W g c ts h hg (by have := hT.en.len; have := hT.le; omega) (by omega)
  rw [hul] at hx2
  have HX := Lib.hid hx
  have HX2 := Lib.hid hx2
  have HJ := Lib.hid hjn
  have HC := Lib.hid h1
  have HC2 := Lib.hid h2
  have HN := Lib.hid hN
  have HGR := Lib.hid (lex_grow hX)
  have HTT := Lib.hid ht
  have HUU := Lib.hid hu
  have hkt := (List.getElem?_eq_some_iff.1 ht).1
  obtain ⟨js, hjs⟩ : ∃ js, js = mkS (joinL ts) := ⟨_, rfl⟩
  rw [← hjs] at HX2 HC2
  simp only [← hjs] at HJ
  obtain ⟨n, hn⟩ : ∃ n, n = s.size := ⟨_, rfl⟩
  rw [← hn] at hl
  have hd : ¬ (2500 : Int) < (n : Int) := by omega
  have hn2 : s.size = n := hn.symm
  obtain ⟨nl, hnl⟩ : ∃ nl, nl = ts.length := ⟨_, rfl⟩
  have hnl2 : nl ≤ 20000 := by have := hT.en.len; have := hT.le; omega
  simp only [← hnl] at HX HX2 HJ
  have HNL := Lib.hid hnl
  have HUL := Lib.hid (hul.trans hnl.symm)
  have hKl : K < nl := by omega
  clear hL hl hn hx hx2 hjn h1 h2 hX hU hT hj hbs hjs hul hN ht hu hkt hnl
  go_enter Tryd.func8, Tryd.ntmps8
  go_wp2_with (fail)
  go_at_call 9
  with_reducible refine HA.out.mono ?_
  rintro _ w1 ⟨rfl, hB⟩
  have HB := Lib.hid hB
  clear hB
  go_wp2_with (fail)
  go_at_call 22
  with_reducible refine (HX.out _ (HL.out.below HB.out)).mono ?_
  rintro _ w2 ⟨hB, g, c, rfl, _, hg2, hTK⟩
  have HB := Lib.hid (HB.out.trans (hB.mono HB.out.size))
  have HTK := Lib.hid hTK
  have HG := Lib.hid hg2
  clear hB hg2 hTK
  go_wp2_with (fail)
  go_at_call 21
  with_reducible refine (HC.out _ (HL.out.below HB.out)).mono ?_
  rintro _ w3 ⟨hB, a0, a1, a2, a3, a4, a5, a6, a7, rfl, hv⟩
  have HTK := Lib.hid ((HTK.out.turn (hB.block g HG.out)).turn ((bl_al9 (.cells #[.int .u8 a0, .string a1, .slice a2 a3 a4, .slice a5 a6 a7] 25)).block g (Nat.lt_of_lt_of_le HG.out hB.size)))
  have HG := Lib.hid (show g < (w3.alloc (.cells #[.int .u8 a0, .string a1, .slice a2 a3 a4, .slice a5 a6 a7] 25)).heap.size by simp only [World.size_alloc]; have := HG.out; have := hB.size; omega)
  have FA := Lib.hid (hv.up (bl_al9 (.cells #[.int .u8 a0, .string a1, .slice a2 a3 a4, .slice a5 a6 a7] 25)))
  have KA := Lib.hid (HK.blk_new w3 (.cells #[.int .u8 a0, .string a1, .slice a2 a3 a4, .slice a5 a6 a7] 25))
  have HB := Lib.hid ((HB.out.trans (hB.mono HB.out.size)).alloc (HB.out.trans (hB.mono HB.out.size)).size (.cells #[.int .u8 a0, .string a1, .slice a2 a3 a4, .slice a5 a6 a7] 25))
  clear hB hv
  go_wp2_with (fail)
  go_at_call 27
  with_reducible refine (HJ.out _ g c HTK.out HG.out).mono ?_
  rintro _ w4 ⟨rfl, hB⟩
  have HTK := Lib.hid (HTK.out.turn (hB.block g HG.out))
  have HG := Lib.hid (Nat.lt_of_lt_of_le HG.out hB.size)
  have FA := Lib.hid (FA.out.up hB)
  have KA := Lib.hid ((hB.block _ (HK.blk_lt KA.out)).trans KA.out)
  have HB := Lib.hid (HB.out.trans (hB.mono HB.out.size))
  clear hB
  go_wp2_with (fail)
  go_at_call 22
  with_reducible refine (HX2.out _ (HL.out.below HB.out)).mono ?_
  rintro _ w5 ⟨hB, g2, c2, rfl, _, hg2, hTU⟩
  have HTK := Lib.hid (HTK.out.turn (hB.block g HG.out))
  have HG := Lib.hid (Nat.lt_of_lt_of_le HG.out hB.size)
  have HTU := Lib.hid hTU
  have HG2 := Lib.hid hg2
  have FA := Lib.hid (FA.out.up hB)
  have KA := Lib.hid ((hB.block _ (HK.blk_lt KA.out)).trans KA.out)
  have HB := Lib.hid (HB.out.trans (hB.mono HB.out.size))
  clear hB hg2 hTU
  go_wp2_with (fail)
  go_at_call 21
  with_reducible refine (HC2.out _ (HL.out.below HB.out)).mono ?_
  rintro _ w6 ⟨hB, b0, b1, b2, b3, b4, b5, b6, b7, rfl, hv⟩
  have HTK := Lib.hid ((HTK.out.turn (hB.block g HG.out)).turn ((bl_al9 (.cells #[.int .u8 b0, .string b1, .slice b2 b3 b4, .slice b5 b6 b7] 25)).block g (Nat.lt_of_lt_of_le HG.out hB.size)))
  have HTU := Lib.hid ((HTU.out.turn (hB.block g2 HG2.out)).turn ((bl_al9 (.cells #[.int .u8 b0, .string b1, .slice b2 b3 b4, .slice b5 b6 b7] 25)).block g2 (Nat.lt_of_lt_of_le HG2.out hB.size)))
  have HG := Lib.hid (show g < (w6.alloc (.cells #[.int .u8 b0, .string b1, .slice b2 b3 b4, .slice b5 b6 b7] 25)).heap.size by simp only [World.size_alloc]; have := HG.out; have := hB.size; omega)
  have HG2 := Lib.hid (show g2 < (w6.alloc (.cells #[.int .u8 b0, .string b1, .slice b2 b3 b4, .slice b5 b6 b7] 25)).heap.size by simp only [World.size_alloc]; have := HG2.out; have := hB.size; omega)
  have FA := Lib.hid ((FA.out.up hB).up (bl_al9 (.cells #[.int .u8 b0, .string b1, .slice b2 b3 b4, .slice b5 b6 b7] 25)))
  have hKA := HK.blk_alloc ((hB.block _ (HK.blk_lt KA.out)).trans KA.out) (.cells #[.int .u8 b0, .string b1, .slice b2 b3 b4, .slice b5 b6 b7] 25)
  have FB := Lib.hid (hv.up (bl_al9 (.cells #[.int .u8 b0, .string b1, .slice b2 b3 b4, .slice b5 b6 b7] 25)))
  have hKB := HK.blk_new w6 (.cells #[.int .u8 b0, .string b1, .slice b2 b3 b4, .slice b5 b6 b7] 25)
  have HB := Lib.hid ((HB.out.trans (hB.mono HB.out.size)).alloc (HB.out.trans (hB.mono HB.out.size)).size (.cells #[.int .u8 b0, .string b1, .slice b2 b3 b4, .slice b5 b6 b7] 25))
  have x0 := HK.blk_cell hKA 0
  have x1 := HK.blk_cell hKA 1
  have x2 := HK.blk_cell hKA 2
  have x3 := HK.blk_cell hKA 3
  have hcall := same_v FA.out FB.out HN.out
  unfold RetY at hcall
  have HCC := Lib.hid hcall
  have KA := Lib.hid hKA
  clear hB hv hKA hKB hcall
  go_wp2_with (fail)
  go_at_call 16
  with_reducible refine HCC.out.mono ?_
  rintro _ w7 ⟨rfl, hB⟩
  have HTK := Lib.hid (HTK.out.turn (hB.block g HG.out))
  have HTU := Lib.hid (HTU.out.turn (hB.block g2 HG2.out))
  have HG := Lib.hid (Nat.lt_of_lt_of_le HG.out hB.size)
  have HG2 := Lib.hid (Nat.lt_of_lt_of_le HG2.out hB.size)
  have HB := Lib.hid (HB.out.trans (hB.mono HB.out.size))
  clear hB x0 x1 x2 x3
  go_wp2_with (fail)
  go_loopw [16] (fun i wr => ∃ j : Nat, j ≤ K ∧ i = .int .i64 j ∧ Below w7.heap.size w7 wr) (fun i _ => nl - (intOf i).toNat)
  case atStart => exact ⟨0, by omega, rfl, Below.refl _ _⟩
  case round =>
    obtain ⟨j, hj, rfl, hB⟩ := hrel
    have HBR := Lib.hid hB
    have hjn : (j : Int) < (nl : Int) := by omega
    have j0 : (0 : Int) ≤ (j : Int) := by omega
    by_cases hjK : j < K
    · obtain ⟨v, htj⟩ : ∃ v, ts[j]? = some v := ⟨_, List.getElem?_eq_getElem (by rw [← HNL.out]; omega)⟩
      have hc2 := (hB.cell (p := ⟨g, j * 3 + 2, none⟩) HG.out).trans (HTK.out.c2 j v htj)
      have hlt := HGR.out j K v _ hjK htj HTT.out
      obtain ⟨vp, hvp⟩ : ∃ vp, vp = v.p := ⟨_, rfl⟩
      obtain ⟨tp, htp⟩ : ∃ tp, tp = t.p := ⟨_, rfl⟩
      rw [← hvp] at hc2 hlt
      rw [← htp] at hlt
      simp only [← htp]
      have hne : ((vp : Int) == (tp : Int)) = false := by simp; omega
      clear hvp htp hlt htj hB
      go_wp2_with (fail)
      go_roundw
      case rel => exact ⟨j + 1, by omega, by go_num, HBR.out⟩
      case measure => simp [intOf]; omega
    · obtain rfl : j = K := by omega
      have hc2 := (hB.cell (p := ⟨g, j * 3 + 2, none⟩) HG.out).trans (HTK.out.c2 j _ HTT.out)
      have hd2 := (hB.cell (p := ⟨g2, j * 3 + 2, none⟩) HG2.out).trans (HTU.out.c2 j _ HUU.out)
      have HBF := Lib.hid (HB.out.trans (hB.mono HB.out.size))
      clear hB
      go_wp2_with (fail)
      go_ret
      exact ⟨rfl, HBF.out⟩
end Go.Proofs.YtdobflpbkfkmgaaDoor
