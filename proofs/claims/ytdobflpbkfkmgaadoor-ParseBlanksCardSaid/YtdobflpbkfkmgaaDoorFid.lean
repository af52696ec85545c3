/- ParseFirst (5): the walk. pfir.py prints this text. -/
import Derived.Test.YtdobflpbkfkmgaaDoorOut
import Derived.Test.YtdobflpbkfkmgaaDoorFic
namespace Go.Proofs.YtdobflpbkfkmgaaDoor
open Go.RowKit Go.HK Go.FR
set_option linter.unusedVariables false
set_option linter.unusedSimpArgs false
set_option linter.unusedSectionVars false
set_option maxRecDepth 100000 in
set_option maxHeartbeats 4000000 in
theorem first_long (w : World) (s b : ByteArray) (hz : s.size ≤ maxLen) (hz2 : b.size ≤ maxLen) (hL : LaidAll w) (hl : 1500 < s.size ∨ 1000 < b.size) : Calls Tryd.prog 5 #[.string s, .string b] w (RetOk w) := by
  have HA := Lib.hid (awake_any w hL.signs hL.levels hL.rows)
  unfold RetA1 at HA
  obtain ⟨n, hn⟩ : ∃ n, n = s.size := ⟨_, rfl⟩
  obtain ⟨n2, hn2⟩ : ∃ n2, n2 = b.size := ⟨_, rfl⟩
  rw [← hn] at hl hz
  rw [← hn2] at hl hz2
  have hm1 : s.size = n := hn.symm
  have hm2 : b.size = n2 := hn2.symm
  by_cases h1 : 1500 < n
  · have hd : (1500 : Int) < (n : Int) := by omega
    clear hL hz hz2 hl hn hn2 h1
    go_enter Tryd.func5, Tryd.ntmps5
    go_wp2_with (fail)
    go_at_call 9
    with_reducible refine HA.out.mono ?_
    rintro e w1 ⟨rfl, hB⟩
    go_wp2_with (fail)
    go_ret
    exact ⟨rfl, hB⟩
  · have hd : ¬ (1500 : Int) < (n : Int) := by omega
    have hd2 : (1000 : Int) < (n2 : Int) := by omega
    clear hL hz hz2 hl hn hn2 h1
    go_enter Tryd.func5, Tryd.ntmps5
    go_wp2_with (fail)
    go_at_call 9
    with_reducible refine HA.out.mono ?_
    rintro e w1 ⟨rfl, hB⟩
    go_wp2_with (fail)
    go_ret
    exact ⟨rfl, hB⟩
set_option maxRecDepth 100000 in
set_option maxHeartbeats 4000000 in
theorem first_other (w : World) (s b : ByteArray) (hL : LaidAll w) (hl : s.size ≤ 1500) (hl2 : b.size ≤ 1000) {p : Nat} {e : Int} (h5 : e ≠ 50) (h6 : e ≠ 51) (h1 : ∀ W, LaidAll W → Calls Tryd.prog 21 #[.string s] W (fun E W' => Below W.heap.size W W' ∧ ∃ (o8 : Int) (nm : ByteArray) (aa : Option Addr) (an ac : Nat) (sa : Option Addr) (sn sc : Nat), E = .returned (.tuple #[.agg #[.int .u8 o8, .string nm, .slice aa an ac, .slice sa sn sc], .int .i64 (p : Int), .int .i64 e]))) : Calls Tryd.prog 5 #[.string s, .string b] w (RetOk w) := by
  have HA := Lib.hid (awake_any w hL.signs hL.levels hL.rows)
  unfold RetA1 at HA
  have HL := Lib.hid hL
  obtain ⟨n, hn⟩ : ∃ n, n = s.size := ⟨_, rfl⟩
  obtain ⟨n2, hn2⟩ : ∃ n2, n2 = b.size := ⟨_, rfl⟩
  rw [← hn] at hl
  rw [← hn2] at hl2
  have hd : ¬ (1500 : Int) < (n : Int) := by omega
  have hd2 : ¬ (1000 : Int) < (n2 : Int) := by omega
  have hm1 : s.size = n := hn.symm
  have hm2 : b.size = n2 := hn2.symm
  clear hn hn2
  have q5 : (e != 50) = true := by simp [h5]
  have q6 : (e != 51) = true := by simp [h6]
  have HC := Lib.hid h1
  clear hL hl hl2 h1 h5 h6
  go_enter Tryd.func5, Tryd.ntmps5
  go_wp2_with (fail)
  go_at_call 9
  with_reducible refine HA.out.mono ?_
  rintro _ w1 ⟨rfl, hB⟩
  have HB := Lib.hid hB
  clear hB
  go_wp2_with (fail)
  go_at_call 21
  with_reducible refine (HC.out _ (HL.out.below HB.out)).mono ?_
  rintro _ w2 ⟨hB, a0, a1, a2, a3, a4, a5, a6, a7, rfl⟩
  have HB := Lib.hid ((HB.out.trans (hB.mono HB.out.size)).alloc (HB.out.trans (hB.mono HB.out.size)).size (.cells #[.int .u8 a0, .string a1, .slice a2 a3 a4, .slice a5 a6 a7] 25))
  clear hB
  go_wp2_with (fail)
  go_ret
  exact ⟨rfl, HB.out⟩
set_option maxRecDepth 100000 in
set_option maxHeartbeats 8000000 in
theorem first_50_0 (w : World) (s b : ByteArray) (hL : LaidAll w) (hl : s.size ≤ 1500) (hl2 : b.size ≤ 1000) {ts : List Tok} {q K : Nat} {t : Tok} (hX : LexL 0 (bys s) ts q 0) (ht : ts[K]? = some t) (h1 : ∀ W, LaidAll W → Calls Tryd.prog 21 #[.string s] W (fun E W' => Below W.heap.size W W' ∧ ∃ (o8 : Int) (nm : ByteArray) (aa : Option Addr) (an ac : Nat) (sa : Option Addr) (sn sc : Nat), E = .returned (.tuple #[.agg #[.int .u8 o8, .string nm, .slice aa an ac, .slice sa sn sc], .int .i64 (t.p : Int), .int .i64 50])))
    {p2 : Nat} (h2 : ∀ W, LaidAll W → Calls Tryd.prog 21 #[.string (s.extract 0 t.p)] W (fun E W' => Below W.heap.size W W' ∧ ∃ (o8 : Int) (nm : ByteArray) (aa : Option Addr) (an ac : Nat) (sa : Option Addr) (sn sc : Nat), E = .returned (.tuple #[.agg #[.int .u8 o8, .string nm, .slice aa an ac, .slice sa sn sc], .int .i64 (p2 : Int), .int .i64 0])))
    (h3 : t.k ≠ 5 → ∀ us q2, LexL 0 (bys b) us q2 0 → ∀ W, LaidAll W → Calls Tryd.prog 21 #[.string (s.extract 0 (t.p + t.t.size) ++ ⟨#[32]⟩ ++ b)] W (fun E W' => Below W.heap.size W W' ∧ ∃ (o8 : Int) (nm : ByteArray) (aa : Option Addr) (an ac : Nat) (sa : Option Addr) (sn sc : Nat), E = .returned (.tuple #[.agg #[.int .u8 o8, .string nm, .slice aa an ac, .slice sa sn sc], .int .i64 (t.p : Int), .int .i64 50]))) : Calls Tryd.prog 5 #[.string s, .string b] w (RetOk w) := by
  have HA := Lib.hid (awake_any w hL.signs hL.levels hL.rows)
  unfold RetA1 at HA
  have HL := Lib.hid hL
  obtain ⟨n, hn⟩ : ∃ n, n = s.size := ⟨_, rfl⟩
  obtain ⟨n2, hn2⟩ : ∃ n2, n2 = b.size := ⟨_, rfl⟩
  rw [← hn] at hl
  rw [← hn2] at hl2
  have hd : ¬ (1500 : Int) < (n : Int) := by omega
  have hd2 : ¬ (1000 : Int) < (n2 : Int) := by omega
  have hm1 : s.size = n := hn.symm
  have hm2 : b.size = n2 := hn2.symm
  clear hn hn2
  have hT := tsok_of_lex (l := bys s) (by show s.size ≤ 16384; omega) hX
  have hx := fun (W : World) (hB : Below w.heap.size w W) => lexT_any W s (by omega) (hL.below hB).signs ts q hX
  have HX := Lib.hid hx
  have HC := Lib.hid h1
  have HC2 := Lib.hid h2
  have HC3 := Lib.hid h3
  have hgr := lex_grow hX
  have HGR := Lib.hid hgr
  have hpl := (lex_places hX).2 t (List.mem_of_getElem? ht)
  have hkt := (List.getElem?_eq_some_iff.1 ht).1
  obtain ⟨nl, hnl⟩ : ∃ nl, nl = ts.length := ⟨_, rfl⟩
  have hnl2 : nl ≤ 20000 := by have := hT.en.len; have := hT.le; omega
  simp only [← hnl] at HX
  have HNL := Lib.hid hnl
  have HTT := Lib.hid ht
  obtain ⟨tk, tt, tp⟩ := t
  simp only at HC HC2 HC3 hpl ⊢
  have hps : tp + tt.size ≤ n := by have : (bys s).length = n := hm1; omega
  have hKl : K < nl := by omega
  have HLB : Hid (∃ us q2 e2, LexL 0 (bys b) us q2 e2) := Lib.hid (lex_total _ (bys b) (Nat.le_refl _) 0)
  have HB16 : Hid (b.size ≤ 16384) := Lib.hid (by omega)
  clear hL hl hl2 h1 h2 h3 hx hX hT hgr hnl ht hpl hkt
  go_enter Tryd.func5, Tryd.ntmps5
  go_wp2_with (fail)
  go_at_call 9
  with_reducible refine HA.out.mono ?_
  rintro _ w1 ⟨rfl, hB⟩
  have HB := Lib.hid hB
  clear hB
  go_wp2_with (fail)
  go_at_call 21
  with_reducible refine (HC.out _ (HL.out.below HB.out)).mono ?_
  rintro _ w2 ⟨hB, a0, a1, a2, a3, a4, a5, a6, a7, rfl⟩
  have HB := Lib.hid ((HB.out.trans (hB.mono HB.out.size)).alloc (HB.out.trans (hB.mono HB.out.size)).size (.cells #[.int .u8 a0, .string a1, .slice a2 a3 a4, .slice a5 a6 a7] 25))
  clear hB
  go_wp2_with (fail)
  go_at_call 22
  with_reducible refine (HX.out _ HB.out).mono ?_
  rintro _ w3 ⟨hB, g, c, rfl, hg1, hg2, hTK⟩
  have HB := Lib.hid (HB.out.trans (hB.mono HB.out.size))
  have HTK := Lib.hid hTK
  have HG := Lib.hid hg2
  clear hB hg1 hg2 hTK
  go_wp2_with (fail)
  go_loopw [11] (fun i wr => ∃ j : Nat, j ≤ K ∧ i = .int .i64 j ∧ Below w3.heap.size w3 wr) (fun i _ => nl - (intOf i).toNat)
  case atStart => exact ⟨0, by omega, rfl, Below.refl _ _⟩
  case round =>
    obtain ⟨j, hj, rfl, hB⟩ := hrel
    have HBR := Lib.hid hB
    have hjn : (j : Int) < (nl : Int) := by omega
    have j0 : (0 : Int) ≤ (j : Int) := by omega
    by_cases hjK : j < K
    · obtain ⟨u, htj⟩ : ∃ u, ts[j]? = some u := ⟨_, List.getElem?_eq_getElem (by rw [← HNL.out]; omega)⟩
      have hc2 := (hB.cell (p := ⟨g, j * 3 + 2, none⟩) HG.out).trans (HTK.out.c2 j u htj)
      have hlt := HGR.out j K u _ hjK htj HTT.out
      simp only at hlt
      have hne : ((u.p : Int) != (tp : Int)) = true := by simp; omega
      obtain ⟨up, hup⟩ : ∃ up, up = u.p := ⟨_, rfl⟩
      rw [← hup] at hc2 hne
      clear hup hlt htj hB
      go_wp2_with (fail)
      go_roundw
      case rel => exact ⟨j + 1, by omega, by go_num, HBR.out⟩
      case measure => simp [intOf]; omega
    · obtain rfl : j = K := by omega
      have hc0 := (hB.cell (p := ⟨g, j * 3, none⟩) HG.out).trans (HTK.out.c0 j _ HTT.out)
      have hc1 := (hB.cell (p := ⟨g, j * 3 + 1, none⟩) HG.out).trans (HTK.out.c1 j _ HTT.out)
      have hc2 := (hB.cell (p := ⟨g, j * 3 + 2, none⟩) HG.out).trans (HTK.out.c2 j _ HTT.out)
      simp only at hc0 hc1 hc2
      clear hB
      go_wp2_with (fail)
      go_at_call 21
      have hb4 := HB.out.trans (HBR.out.mono HB.out.size)
      with_reducible refine (HC2.out _ (HL.out.below hb4)).mono ?_
      rintro _ w4 ⟨hB, b0, b1, b2, b3, b4, b5, b6, b7, rfl⟩
      have hgw : g < wr.heap.size := Nat.lt_of_lt_of_le HG.out HBR.out.size
      have hd0 := ((bl_al9 (.cells #[.int .u8 b0, .string b1, .slice b2 b3 b4, .slice b5 b6 b7] 25)).cell (p := ⟨g, j * 3, none⟩) (Nat.lt_of_lt_of_le hgw hB.size)).trans ((hB.cell (p := ⟨g, j * 3, none⟩) hgw).trans hc0)
      have hd1 := ((bl_al9 (.cells #[.int .u8 b0, .string b1, .slice b2 b3 b4, .slice b5 b6 b7] 25)).cell (p := ⟨g, j * 3 + 1, none⟩) (Nat.lt_of_lt_of_le hgw hB.size)).trans ((hB.cell (p := ⟨g, j * 3 + 1, none⟩) hgw).trans hc1)
      have HG4 := Lib.hid (show g < (w4.alloc (.cells #[.int .u8 b0, .string b1, .slice b2 b3 b4, .slice b5 b6 b7] 25)).heap.size by simp only [World.size_alloc]; have := hB.size; omega)
      have HB4 := Lib.hid ((hb4.trans (hB.mono hb4.size)).alloc (hb4.trans (hB.mono hb4.size)).size (.cells #[.int .u8 b0, .string b1, .slice b2 b3 b4, .slice b5 b6 b7] 25))
      have hltp : ¬ (tp : Int) < (tp : Int) := by omega
      clear hb4 hB hc0 hc1 hc2 hgw
      by_cases h5 : tk = 5
      · subst h5
        go_wp2_with (fail)
        go_ret
        exact ⟨rfl, HB4.out⟩
      have q5 : (tk == 5) = false := by simp [h5]
      have H5 := Lib.hid h5
      clear h5
      obtain ⟨us, q2, e2, hZ⟩ := HLB.out
      have HZ := Lib.hid hZ
      clear hZ
      by_cases he2 : e2 = 0
      · have hcx := lexT_any (w4.alloc (.cells #[.int .u8 b0, .string b1, .slice b2 b3 b4, .slice b5 b6 b7] 25)) b HB16.out (HL.out.below HB4.out).signs us q2 (by have := HZ.out; rw [he2] at this; exact this)
        have HCX := Lib.hid hcx
        have HE2 := Lib.hid he2
        obtain ⟨ul, hul⟩ : ∃ ul, ul = us.length := ⟨_, rfl⟩
        rw [← hul] at HCX
        clear hcx he2 hul
        go_wp2_with (fail)
        go_at_call 22
        with_reducible refine HCX.out.mono ?_
        rintro _ w5 ⟨hB, g2, c2, rfl, _, _, _⟩
        have hd1' := (hB.cell (p := ⟨g, j * 3 + 1, none⟩) HG4.out).trans hd1
        have HB5 := Lib.hid (HB4.out.trans (hB.mono HB4.out.size))
        clear hB hd0 hd1
        have hw1 : wrap64 ((tp : Int) + (tt.size : Int)) = ((tp + tt.size : Nat) : Int) := by rw [IntWalk.wrap64_in _ (by omega)]; omega
        obtain ⟨tz, htz⟩ : ∃ tz, tz = tt.size := ⟨_, rfl⟩
        rw [← htz] at hw1 hps
        have htz2 : tt.size = tz := htz.symm
        obtain ⟨pz, hpz⟩ : ∃ pz, pz = tp + tz := ⟨_, rfl⟩
        rw [← hpz] at hw1 hps
        have HPZ : Hid (tp + tt.size = pz) := Lib.hid (by rw [hpz, htz])
        clear htz hpz
        obtain ⟨sx, hsx⟩ : ∃ sx, sx = s.extract 0 pz := ⟨_, rfl⟩
        have hsx2 : s.extract 0 pz = sx := hsx.symm
        have hsz : sx.size ≤ 1500 := by clear hw1; rw [hsx]; simp; omega
        have hc3 := HC3.out H5.out us q2 (by have := HZ.out; rw [HE2.out] at this; exact this) w5 (HL.out.below HB5.out)
        rw [HPZ.out, hsx2] at hc3
        have HCC := Lib.hid hc3
        go_upto_region 21 with (fail)
        have HSZ := Lib.hid hsz
        clear hc3 hsx hsz HZ HCX HX HC HC2 HC3 HLB HGR hd hd2 hm2 hnl2 hjn hj hjK hltp q5 H5 HE2 HPZ
        go_wp2_with (fail)
        all_goals try (exfalso; clear hw1; have h1 := HSZ.out; have h2 := HB16.out; omega)
        go_at_call 21
        with_reducible refine HCC.out.mono ?_
        rintro _ w6 ⟨hB, d0, d1, d2, d3, d4, d5, d6, d7, rfl⟩
        have HB6 := Lib.hid (HB5.out.trans (hB.mono HB5.out.size))
        clear hB hsx2
        go_wp2_with (fail)
        go_ret
        exact ⟨rfl, HB6.out⟩
      · have hcx := (lex_any (w4.alloc (.cells #[.int .u8 b0, .string b1, .slice b2 b3 b4, .slice b5 b6 b7] 25)) b HB16.out (HL.out.below HB4.out).signs us q2 e2 HZ.out).mono (R' := fun E W' => E = .returned (.tuple #[.slice none 0 0, .int .i64 q2, .int .i64 e2]) ∧ Below (w4.alloc (.cells #[.int .u8 b0, .string b1, .slice b2 b3 b4, .slice b5 b6 b7] 25)).heap.size (w4.alloc (.cells #[.int .u8 b0, .string b1, .slice b2 b3 b4, .slice b5 b6 b7] 25)) W') fun E W' ⟨hB, h⟩ => by
          rcases h with ⟨h0, _⟩ | ⟨_, h⟩
          · exact absurd h0 he2
          · exact ⟨h, hB⟩
        have HCX := Lib.hid hcx
        have qe2 : (e2 != 0) = true := by simp [he2]
        clear hcx he2
        go_wp2_with (fail)
        go_at_call 22
        with_reducible refine HCX.out.mono ?_
        rintro _ w5 ⟨rfl, hB⟩
        have HB5 := Lib.hid (HB4.out.trans (hB.mono HB4.out.size))
        clear hB
        go_wp2_with (fail)
        go_ret
        exact ⟨rfl, HB5.out⟩
set_option maxRecDepth 100000 in
set_option maxHeartbeats 8000000 in
theorem first_50_3 (w : World) (s b : ByteArray) (hL : LaidAll w) (hl : s.size ≤ 1500) (hl2 : b.size ≤ 1000) {ts : List Tok} {q K : Nat} {t : Tok} (hX : LexL 0 (bys s) ts q 0) (ht : ts[K]? = some t) (h1 : ∀ W, LaidAll W → Calls Tryd.prog 21 #[.string s] W (fun E W' => Below W.heap.size W W' ∧ ∃ (o8 : Int) (nm : ByteArray) (aa : Option Addr) (an ac : Nat) (sa : Option Addr) (sn sc : Nat), E = .returned (.tuple #[.agg #[.int .u8 o8, .string nm, .slice aa an ac, .slice sa sn sc], .int .i64 (t.p : Int), .int .i64 50])))
    {p2 : Nat} (h2 : ∀ W, LaidAll W → Calls Tryd.prog 21 #[.string (s.extract 0 t.p)] W (fun E W' => Below W.heap.size W W' ∧ ∃ (o8 : Int) (nm : ByteArray) (aa : Option Addr) (an ac : Nat) (sa : Option Addr) (sn sc : Nat), E = .returned (.tuple #[.agg #[.int .u8 o8, .string nm, .slice aa an ac, .slice sa sn sc], .int .i64 (p2 : Int), .int .i64 3])))
    (h3 : t.k ≠ 5 → ∀ us q2, LexL 0 (bys b) us q2 0 → ∀ W, LaidAll W → Calls Tryd.prog 21 #[.string (s.extract 0 (t.p + t.t.size) ++ ⟨#[32]⟩ ++ b)] W (fun E W' => Below W.heap.size W W' ∧ ∃ (o8 : Int) (nm : ByteArray) (aa : Option Addr) (an ac : Nat) (sa : Option Addr) (sn sc : Nat), E = .returned (.tuple #[.agg #[.int .u8 o8, .string nm, .slice aa an ac, .slice sa sn sc], .int .i64 (t.p : Int), .int .i64 50]))) : Calls Tryd.prog 5 #[.string s, .string b] w (RetOk w) := by
  have HA := Lib.hid (awake_any w hL.signs hL.levels hL.rows)
  unfold RetA1 at HA
  have HL := Lib.hid hL
  obtain ⟨n, hn⟩ : ∃ n, n = s.size := ⟨_, rfl⟩
  obtain ⟨n2, hn2⟩ : ∃ n2, n2 = b.size := ⟨_, rfl⟩
  rw [← hn] at hl
  rw [← hn2] at hl2
  have hd : ¬ (1500 : Int) < (n : Int) := by omega
  have hd2 : ¬ (1000 : Int) < (n2 : Int) := by omega
  have hm1 : s.size = n := hn.symm
  have hm2 : b.size = n2 := hn2.symm
  clear hn hn2
  have hT := tsok_of_lex (l := bys s) (by show s.size ≤ 16384; omega) hX
  have hx := fun (W : World) (hB : Below w.heap.size w W) => lexT_any W s (by omega) (hL.below hB).signs ts q hX
  have HX := Lib.hid hx
  have HC := Lib.hid h1
  have HC2 := Lib.hid h2
  have HC3 := Lib.hid h3
  have hgr := lex_grow hX
  have HGR := Lib.hid hgr
  have hpl := (lex_places hX).2 t (List.mem_of_getElem? ht)
  have hkt := (List.getElem?_eq_some_iff.1 ht).1
  obtain ⟨nl, hnl⟩ : ∃ nl, nl = ts.length := ⟨_, rfl⟩
  have hnl2 : nl ≤ 20000 := by have := hT.en.len; have := hT.le; omega
  simp only [← hnl] at HX
  have HNL := Lib.hid hnl
  have HTT := Lib.hid ht
  obtain ⟨tk, tt, tp⟩ := t
  simp only at HC HC2 HC3 hpl ⊢
  have hps : tp + tt.size ≤ n := by have : (bys s).length = n := hm1; omega
  have hKl : K < nl := by omega
  have HLB : Hid (∃ us q2 e2, LexL 0 (bys b) us q2 e2) := Lib.hid (lex_total _ (bys b) (Nat.le_refl _) 0)
  have HB16 : Hid (b.size ≤ 16384) := Lib.hid (by omega)
  clear hL hl hl2 h1 h2 h3 hx hX hT hgr hnl ht hpl hkt
  go_enter Tryd.func5, Tryd.ntmps5
  go_wp2_with (fail)
  go_at_call 9
  with_reducible refine HA.out.mono ?_
  rintro _ w1 ⟨rfl, hB⟩
  have HB := Lib.hid hB
  clear hB
  go_wp2_with (fail)
  go_at_call 21
  with_reducible refine (HC.out _ (HL.out.below HB.out)).mono ?_
  rintro _ w2 ⟨hB, a0, a1, a2, a3, a4, a5, a6, a7, rfl⟩
  have HB := Lib.hid ((HB.out.trans (hB.mono HB.out.size)).alloc (HB.out.trans (hB.mono HB.out.size)).size (.cells #[.int .u8 a0, .string a1, .slice a2 a3 a4, .slice a5 a6 a7] 25))
  clear hB
  go_wp2_with (fail)
  go_at_call 22
  with_reducible refine (HX.out _ HB.out).mono ?_
  rintro _ w3 ⟨hB, g, c, rfl, hg1, hg2, hTK⟩
  have HB := Lib.hid (HB.out.trans (hB.mono HB.out.size))
  have HTK := Lib.hid hTK
  have HG := Lib.hid hg2
  clear hB hg1 hg2 hTK
  go_wp2_with (fail)
  go_loopw [11] (fun i wr => ∃ j : Nat, j ≤ K ∧ i = .int .i64 j ∧ Below w3.heap.size w3 wr) (fun i _ => nl - (intOf i).toNat)
  case atStart => exact ⟨0, by omega, rfl, Below.refl _ _⟩
  case round =>
    obtain ⟨j, hj, rfl, hB⟩ := hrel
    have HBR := Lib.hid hB
    have hjn : (j : Int) < (nl : Int) := by omega
    have j0 : (0 : Int) ≤ (j : Int) := by omega
    by_cases hjK : j < K
    · obtain ⟨u, htj⟩ : ∃ u, ts[j]? = some u := ⟨_, List.getElem?_eq_getElem (by rw [← HNL.out]; omega)⟩
      have hc2 := (hB.cell (p := ⟨g, j * 3 + 2, none⟩) HG.out).trans (HTK.out.c2 j u htj)
      have hlt := HGR.out j K u _ hjK htj HTT.out
      simp only at hlt
      have hne : ((u.p : Int) != (tp : Int)) = true := by simp; omega
      obtain ⟨up, hup⟩ : ∃ up, up = u.p := ⟨_, rfl⟩
      rw [← hup] at hc2 hne
      clear hup hlt htj hB
      go_wp2_with (fail)
      go_roundw
      case rel => exact ⟨j + 1, by omega, by go_num, HBR.out⟩
      case measure => simp [intOf]; omega
    · obtain rfl : j = K := by omega
      have hc0 := (hB.cell (p := ⟨g, j * 3, none⟩) HG.out).trans (HTK.out.c0 j _ HTT.out)
      have hc1 := (hB.cell (p := ⟨g, j * 3 + 1, none⟩) HG.out).trans (HTK.out.c1 j _ HTT.out)
      have hc2 := (hB.cell (p := ⟨g, j * 3 + 2, none⟩) HG.out).trans (HTK.out.c2 j _ HTT.out)
      simp only at hc0 hc1 hc2
      clear hB
      go_wp2_with (fail)
      go_at_call 21
      have hb4 := HB.out.trans (HBR.out.mono HB.out.size)
      with_reducible refine (HC2.out _ (HL.out.below hb4)).mono ?_
      rintro _ w4 ⟨hB, b0, b1, b2, b3, b4, b5, b6, b7, rfl⟩
      have hgw : g < wr.heap.size := Nat.lt_of_lt_of_le HG.out HBR.out.size
      have hd0 := ((bl_al9 (.cells #[.int .u8 b0, .string b1, .slice b2 b3 b4, .slice b5 b6 b7] 25)).cell (p := ⟨g, j * 3, none⟩) (Nat.lt_of_lt_of_le hgw hB.size)).trans ((hB.cell (p := ⟨g, j * 3, none⟩) hgw).trans hc0)
      have hd1 := ((bl_al9 (.cells #[.int .u8 b0, .string b1, .slice b2 b3 b4, .slice b5 b6 b7] 25)).cell (p := ⟨g, j * 3 + 1, none⟩) (Nat.lt_of_lt_of_le hgw hB.size)).trans ((hB.cell (p := ⟨g, j * 3 + 1, none⟩) hgw).trans hc1)
      have HG4 := Lib.hid (show g < (w4.alloc (.cells #[.int .u8 b0, .string b1, .slice b2 b3 b4, .slice b5 b6 b7] 25)).heap.size by simp only [World.size_alloc]; have := hB.size; omega)
      have HB4 := Lib.hid ((hb4.trans (hB.mono hb4.size)).alloc (hb4.trans (hB.mono hb4.size)).size (.cells #[.int .u8 b0, .string b1, .slice b2 b3 b4, .slice b5 b6 b7] 25))
      have hltp : ¬ (tp : Int) < (tp : Int) := by omega
      clear hb4 hB hc0 hc1 hc2 hgw
      by_cases h5 : tk = 5
      · subst h5
        go_wp2_with (fail)
        go_ret
        exact ⟨rfl, HB4.out⟩
      have q5 : (tk == 5) = false := by simp [h5]
      have H5 := Lib.hid h5
      clear h5
      obtain ⟨us, q2, e2, hZ⟩ := HLB.out
      have HZ := Lib.hid hZ
      clear hZ
      by_cases he2 : e2 = 0
      · have hcx := lexT_any (w4.alloc (.cells #[.int .u8 b0, .string b1, .slice b2 b3 b4, .slice b5 b6 b7] 25)) b HB16.out (HL.out.below HB4.out).signs us q2 (by have := HZ.out; rw [he2] at this; exact this)
        have HCX := Lib.hid hcx
        have HE2 := Lib.hid he2
        obtain ⟨ul, hul⟩ : ∃ ul, ul = us.length := ⟨_, rfl⟩
        rw [← hul] at HCX
        clear hcx he2 hul
        go_wp2_with (fail)
        go_at_call 22
        with_reducible refine HCX.out.mono ?_
        rintro _ w5 ⟨hB, g2, c2, rfl, _, _, _⟩
        have hd1' := (hB.cell (p := ⟨g, j * 3 + 1, none⟩) HG4.out).trans hd1
        have HB5 := Lib.hid (HB4.out.trans (hB.mono HB4.out.size))
        clear hB hd0 hd1
        have hw1 : wrap64 ((tp : Int) + (tt.size : Int)) = ((tp + tt.size : Nat) : Int) := by rw [IntWalk.wrap64_in _ (by omega)]; omega
        obtain ⟨tz, htz⟩ : ∃ tz, tz = tt.size := ⟨_, rfl⟩
        rw [← htz] at hw1 hps
        have htz2 : tt.size = tz := htz.symm
        obtain ⟨pz, hpz⟩ : ∃ pz, pz = tp + tz := ⟨_, rfl⟩
        rw [← hpz] at hw1 hps
        have HPZ : Hid (tp + tt.size = pz) := Lib.hid (by rw [hpz, htz])
        clear htz hpz
        obtain ⟨sx, hsx⟩ : ∃ sx, sx = s.extract 0 pz := ⟨_, rfl⟩
        have hsx2 : s.extract 0 pz = sx := hsx.symm
        have hsz : sx.size ≤ 1500 := by clear hw1; rw [hsx]; simp; omega
        have hc3 := HC3.out H5.out us q2 (by have := HZ.out; rw [HE2.out] at this; exact this) w5 (HL.out.below HB5.out)
        rw [HPZ.out, hsx2] at hc3
        have HCC := Lib.hid hc3
        go_upto_region 21 with (fail)
        have HSZ := Lib.hid hsz
        clear hc3 hsx hsz HZ HCX HX HC HC2 HC3 HLB HGR hd hd2 hm2 hnl2 hjn hj hjK hltp q5 H5 HE2 HPZ
        go_wp2_with (fail)
        all_goals try (exfalso; clear hw1; have h1 := HSZ.out; have h2 := HB16.out; omega)
        go_at_call 21
        with_reducible refine HCC.out.mono ?_
        rintro _ w6 ⟨hB, d0, d1, d2, d3, d4, d5, d6, d7, rfl⟩
        have HB6 := Lib.hid (HB5.out.trans (hB.mono HB5.out.size))
        clear hB hsx2
        go_wp2_with (fail)
        go_ret
        exact ⟨rfl, HB6.out⟩
      · have hcx := (lex_any (w4.alloc (.cells #[.int .u8 b0, .string b1, .slice b2 b3 b4, .slice b5 b6 b7] 25)) b HB16.out (HL.out.below HB4.out).signs us q2 e2 HZ.out).mono (R' := fun E W' => E = .returned (.tuple #[.slice none 0 0, .int .i64 q2, .int .i64 e2]) ∧ Below (w4.alloc (.cells #[.int .u8 b0, .string b1, .slice b2 b3 b4, .slice b5 b6 b7] 25)).heap.size (w4.alloc (.cells #[.int .u8 b0, .string b1, .slice b2 b3 b4, .slice b5 b6 b7] 25)) W') fun E W' ⟨hB, h⟩ => by
          rcases h with ⟨h0, _⟩ | ⟨_, h⟩
          · exact absurd h0 he2
          · exact ⟨h, hB⟩
        have HCX := Lib.hid hcx
        have qe2 : (e2 != 0) = true := by simp [he2]
        clear hcx he2
        go_wp2_with (fail)
        go_at_call 22
        with_reducible refine HCX.out.mono ?_
        rintro _ w5 ⟨rfl, hB⟩
        have HB5 := Lib.hid (HB4.out.trans (hB.mono HB4.out.size))
        clear hB
        go_wp2_with (fail)
        go_ret
        exact ⟨rfl, HB5.out⟩
set_option maxRecDepth 100000 in
set_option maxHeartbeats 8000000 in
theorem first_50_50 (w : World) (s b : ByteArray) (hL : LaidAll w) (hl : s.size ≤ 1500) (hl2 : b.size ≤ 1000) {ts : List Tok} {q K : Nat} {t : Tok} (hX : LexL 0 (bys s) ts q 0) (ht : ts[K]? = some t) (h1 : ∀ W, LaidAll W → Calls Tryd.prog 21 #[.string s] W (fun E W' => Below W.heap.size W W' ∧ ∃ (o8 : Int) (nm : ByteArray) (aa : Option Addr) (an ac : Nat) (sa : Option Addr) (sn sc : Nat), E = .returned (.tuple #[.agg #[.int .u8 o8, .string nm, .slice aa an ac, .slice sa sn sc], .int .i64 (t.p : Int), .int .i64 50])))
    (h2 : ∀ W, LaidAll W → Calls Tryd.prog 21 #[.string (s.extract 0 t.p)] W (fun E W' => Below W.heap.size W W' ∧ ∃ (o8 : Int) (nm : ByteArray) (aa : Option Addr) (an ac : Nat) (sa : Option Addr) (sn sc : Nat), E = .returned (.tuple #[.agg #[.int .u8 o8, .string nm, .slice aa an ac, .slice sa sn sc], .int .i64 (t.p : Int), .int .i64 50])))
    (h3 : t.k ≠ 5 → ∀ us q2, LexL 0 (bys b) us q2 0 → ∀ W, LaidAll W → Calls Tryd.prog 21 #[.string (s.extract 0 (t.p + t.t.size) ++ ⟨#[32]⟩ ++ b)] W (fun E W' => Below W.heap.size W W' ∧ ∃ (o8 : Int) (nm : ByteArray) (aa : Option Addr) (an ac : Nat) (sa : Option Addr) (sn sc : Nat), E = .returned (.tuple #[.agg #[.int .u8 o8, .string nm, .slice aa an ac, .slice sa sn sc], .int .i64 (t.p : Int), .int .i64 50]))) : Calls Tryd.prog 5 #[.string s, .string b] w (RetOk w) := by
  have HA := Lib.hid (awake_any w hL.signs hL.levels hL.rows)
  unfold RetA1 at HA
  have HL := Lib.hid hL
  obtain ⟨n, hn⟩ : ∃ n, n = s.size := ⟨_, rfl⟩
  obtain ⟨n2, hn2⟩ : ∃ n2, n2 = b.size := ⟨_, rfl⟩
  rw [← hn] at hl
  rw [← hn2] at hl2
  have hd : ¬ (1500 : Int) < (n : Int) := by omega
  have hd2 : ¬ (1000 : Int) < (n2 : Int) := by omega
  have hm1 : s.size = n := hn.symm
  have hm2 : b.size = n2 := hn2.symm
  clear hn hn2
  have hT := tsok_of_lex (l := bys s) (by show s.size ≤ 16384; omega) hX
  have hx := fun (W : World) (hB : Below w.heap.size w W) => lexT_any W s (by omega) (hL.below hB).signs ts q hX
  have HX := Lib.hid hx
  have HC := Lib.hid h1
  have HC2 := Lib.hid h2
  have HC3 := Lib.hid h3
  have hgr := lex_grow hX
  have HGR := Lib.hid hgr
  have hpl := (lex_places hX).2 t (List.mem_of_getElem? ht)
  have hkt := (List.getElem?_eq_some_iff.1 ht).1
  obtain ⟨nl, hnl⟩ : ∃ nl, nl = ts.length := ⟨_, rfl⟩
  have hnl2 : nl ≤ 20000 := by have := hT.en.len; have := hT.le; omega
  simp only [← hnl] at HX
  have HNL := Lib.hid hnl
  have HTT := Lib.hid ht
  obtain ⟨tk, tt, tp⟩ := t
  simp only at HC HC2 HC3 hpl ⊢
  have hps : tp + tt.size ≤ n := by have : (bys s).length = n := hm1; omega
  have hKl : K < nl := by omega
  have HLB : Hid (∃ us q2 e2, LexL 0 (bys b) us q2 e2) := Lib.hid (lex_total _ (bys b) (Nat.le_refl _) 0)
  have HB16 : Hid (b.size ≤ 16384) := Lib.hid (by omega)
  clear hL hl hl2 h1 h2 h3 hx hX hT hgr hnl ht hpl hkt
  go_enter Tryd.func5, Tryd.ntmps5
  go_wp2_with (fail)
  go_at_call 9
  with_reducible refine HA.out.mono ?_
  rintro _ w1 ⟨rfl, hB⟩
  have HB := Lib.hid hB
  clear hB
  go_wp2_with (fail)
  go_at_call 21
  with_reducible refine (HC.out _ (HL.out.below HB.out)).mono ?_
  rintro _ w2 ⟨hB, a0, a1, a2, a3, a4, a5, a6, a7, rfl⟩
  have HB := Lib.hid ((HB.out.trans (hB.mono HB.out.size)).alloc (HB.out.trans (hB.mono HB.out.size)).size (.cells #[.int .u8 a0, .string a1, .slice a2 a3 a4, .slice a5 a6 a7] 25))
  clear hB
  go_wp2_with (fail)
  go_at_call 22
  with_reducible refine (HX.out _ HB.out).mono ?_
  rintro _ w3 ⟨hB, g, c, rfl, hg1, hg2, hTK⟩
  have HB := Lib.hid (HB.out.trans (hB.mono HB.out.size))
  have HTK := Lib.hid hTK
  have HG := Lib.hid hg2
  clear hB hg1 hg2 hTK
  go_wp2_with (fail)
  go_loopw [11] (fun i wr => ∃ j : Nat, j ≤ K ∧ i = .int .i64 j ∧ Below w3.heap.size w3 wr) (fun i _ => nl - (intOf i).toNat)
  case atStart => exact ⟨0, by omega, rfl, Below.refl _ _⟩
  case round =>
    obtain ⟨j, hj, rfl, hB⟩ := hrel
    have HBR := Lib.hid hB
    have hjn : (j : Int) < (nl : Int) := by omega
    have j0 : (0 : Int) ≤ (j : Int) := by omega
    by_cases hjK : j < K
    · obtain ⟨u, htj⟩ : ∃ u, ts[j]? = some u := ⟨_, List.getElem?_eq_getElem (by rw [← HNL.out]; omega)⟩
      have hc2 := (hB.cell (p := ⟨g, j * 3 + 2, none⟩) HG.out).trans (HTK.out.c2 j u htj)
      have hlt := HGR.out j K u _ hjK htj HTT.out
      simp only at hlt
      have hne : ((u.p : Int) != (tp : Int)) = true := by simp; omega
      obtain ⟨up, hup⟩ : ∃ up, up = u.p := ⟨_, rfl⟩
      rw [← hup] at hc2 hne
      clear hup hlt htj hB
      go_wp2_with (fail)
      go_roundw
      case rel => exact ⟨j + 1, by omega, by go_num, HBR.out⟩
      case measure => simp [intOf]; omega
    · obtain rfl : j = K := by omega
      have hc0 := (hB.cell (p := ⟨g, j * 3, none⟩) HG.out).trans (HTK.out.c0 j _ HTT.out)
      have hc1 := (hB.cell (p := ⟨g, j * 3 + 1, none⟩) HG.out).trans (HTK.out.c1 j _ HTT.out)
      have hc2 := (hB.cell (p := ⟨g, j * 3 + 2, none⟩) HG.out).trans (HTK.out.c2 j _ HTT.out)
      simp only at hc0 hc1 hc2
      clear hB
      go_wp2_with (fail)
      go_at_call 21
      have hb4 := HB.out.trans (HBR.out.mono HB.out.size)
      with_reducible refine (HC2.out _ (HL.out.below hb4)).mono ?_
      rintro _ w4 ⟨hB, b0, b1, b2, b3, b4, b5, b6, b7, rfl⟩
      have hgw : g < wr.heap.size := Nat.lt_of_lt_of_le HG.out HBR.out.size
      have hd0 := ((bl_al9 (.cells #[.int .u8 b0, .string b1, .slice b2 b3 b4, .slice b5 b6 b7] 25)).cell (p := ⟨g, j * 3, none⟩) (Nat.lt_of_lt_of_le hgw hB.size)).trans ((hB.cell (p := ⟨g, j * 3, none⟩) hgw).trans hc0)
      have hd1 := ((bl_al9 (.cells #[.int .u8 b0, .string b1, .slice b2 b3 b4, .slice b5 b6 b7] 25)).cell (p := ⟨g, j * 3 + 1, none⟩) (Nat.lt_of_lt_of_le hgw hB.size)).trans ((hB.cell (p := ⟨g, j * 3 + 1, none⟩) hgw).trans hc1)
      have HG4 := Lib.hid (show g < (w4.alloc (.cells #[.int .u8 b0, .string b1, .slice b2 b3 b4, .slice b5 b6 b7] 25)).heap.size by simp only [World.size_alloc]; have := hB.size; omega)
      have HB4 := Lib.hid ((hb4.trans (hB.mono hb4.size)).alloc (hb4.trans (hB.mono hb4.size)).size (.cells #[.int .u8 b0, .string b1, .slice b2 b3 b4, .slice b5 b6 b7] 25))
      have hltp : ¬ (tp : Int) < (tp : Int) := by omega
      clear hb4 hB hc0 hc1 hc2 hgw
      by_cases h5 : tk = 5
      · subst h5
        go_wp2_with (fail)
        go_ret
        exact ⟨rfl, HB4.out⟩
      have q5 : (tk == 5) = false := by simp [h5]
      have H5 := Lib.hid h5
      clear h5
      obtain ⟨us, q2, e2, hZ⟩ := HLB.out
      have HZ := Lib.hid hZ
      clear hZ
      by_cases he2 : e2 = 0
      · have hcx := lexT_any (w4.alloc (.cells #[.int .u8 b0, .string b1, .slice b2 b3 b4, .slice b5 b6 b7] 25)) b HB16.out (HL.out.below HB4.out).signs us q2 (by have := HZ.out; rw [he2] at this; exact this)
        have HCX := Lib.hid hcx
        have HE2 := Lib.hid he2
        obtain ⟨ul, hul⟩ : ∃ ul, ul = us.length := ⟨_, rfl⟩
        rw [← hul] at HCX
        clear hcx he2 hul
        go_wp2_with (fail)
        go_at_call 22
        with_reducible refine HCX.out.mono ?_
        rintro _ w5 ⟨hB, g2, c2, rfl, _, _, _⟩
        have hd1' := (hB.cell (p := ⟨g, j * 3 + 1, none⟩) HG4.out).trans hd1
        have HB5 := Lib.hid (HB4.out.trans (hB.mono HB4.out.size))
        clear hB hd0 hd1
        have hw1 : wrap64 ((tp : Int) + (tt.size : Int)) = ((tp + tt.size : Nat) : Int) := by rw [IntWalk.wrap64_in _ (by omega)]; omega
        obtain ⟨tz, htz⟩ : ∃ tz, tz = tt.size := ⟨_, rfl⟩
        rw [← htz] at hw1 hps
        have htz2 : tt.size = tz := htz.symm
        obtain ⟨pz, hpz⟩ : ∃ pz, pz = tp + tz := ⟨_, rfl⟩
        rw [← hpz] at hw1 hps
        have HPZ : Hid (tp + tt.size = pz) := Lib.hid (by rw [hpz, htz])
        clear htz hpz
        obtain ⟨sx, hsx⟩ : ∃ sx, sx = s.extract 0 pz := ⟨_, rfl⟩
        have hsx2 : s.extract 0 pz = sx := hsx.symm
        have hsz : sx.size ≤ 1500 := by clear hw1; rw [hsx]; simp; omega
        have hc3 := HC3.out H5.out us q2 (by have := HZ.out; rw [HE2.out] at this; exact this) w5 (HL.out.below HB5.out)
        rw [HPZ.out, hsx2] at hc3
        have HCC := Lib.hid hc3
        go_upto_region 21 with (fail)
        have HSZ := Lib.hid hsz
        clear hc3 hsx hsz HZ HCX HX HC HC2 HC3 HLB HGR hd hd2 hm2 hnl2 hjn hj hjK hltp q5 H5 HE2 HPZ
        go_wp2_with (fail)
        all_goals try (exfalso; clear hw1; have h1 := HSZ.out; have h2 := HB16.out; omega)
        go_at_call 21
        with_reducible refine HCC.out.mono ?_
        rintro _ w6 ⟨hB, d0, d1, d2, d3, d4, d5, d6, d7, rfl⟩
        have HB6 := Lib.hid (HB5.out.trans (hB.mono HB5.out.size))
        clear hB hsx2
        go_wp2_with (fail)
        go_ret
        exact ⟨rfl, HB6.out⟩
      · have hcx := (lex_any (w4.alloc (.cells #[.int .u8 b0, .string b1, .slice b2 b3 b4, .slice b5 b6 b7] 25)) b HB16.out (HL.out.below HB4.out).signs us q2 e2 HZ.out).mono (R' := fun E W' => E = .returned (.tuple #[.slice none 0 0, .int .i64 q2, .int .i64 e2]) ∧ Below (w4.alloc (.cells #[.int .u8 b0, .string b1, .slice b2 b3 b4, .slice b5 b6 b7] 25)).heap.size (w4.alloc (.cells #[.int .u8 b0, .string b1, .slice b2 b3 b4, .slice b5 b6 b7] 25)) W') fun E W' ⟨hB, h⟩ => by
          rcases h with ⟨h0, _⟩ | ⟨_, h⟩
          · exact absurd h0 he2
          · exact ⟨h, hB⟩
        have HCX := Lib.hid hcx
        have qe2 : (e2 != 0) = true := by simp [he2]
        clear hcx he2
        go_wp2_with (fail)
        go_at_call 22
        with_reducible refine HCX.out.mono ?_
        rintro _ w5 ⟨rfl, hB⟩
        have HB5 := Lib.hid (HB4.out.trans (hB.mono HB4.out.size))
        clear hB
        go_wp2_with (fail)
        go_ret
        exact ⟨rfl, HB5.out⟩
set_option maxRecDepth 100000 in
set_option maxHeartbeats 8000000 in
theorem first_50_51 (w : World) (s b : ByteArray) (hL : LaidAll w) (hl : s.size ≤ 1500) (hl2 : b.size ≤ 1000) {ts : List Tok} {q K : Nat} {t : Tok} (hX : LexL 0 (bys s) ts q 0) (ht : ts[K]? = some t) (h1 : ∀ W, LaidAll W → Calls Tryd.prog 21 #[.string s] W (fun E W' => Below W.heap.size W W' ∧ ∃ (o8 : Int) (nm : ByteArray) (aa : Option Addr) (an ac : Nat) (sa : Option Addr) (sn sc : Nat), E = .returned (.tuple #[.agg #[.int .u8 o8, .string nm, .slice aa an ac, .slice sa sn sc], .int .i64 (t.p : Int), .int .i64 50])))
    (h2 : ∀ W, LaidAll W → Calls Tryd.prog 21 #[.string (s.extract 0 t.p)] W (fun E W' => Below W.heap.size W W' ∧ ∃ (o8 : Int) (nm : ByteArray) (aa : Option Addr) (an ac : Nat) (sa : Option Addr) (sn sc : Nat), E = .returned (.tuple #[.agg #[.int .u8 o8, .string nm, .slice aa an ac, .slice sa sn sc], .int .i64 (t.p : Int), .int .i64 51])))
    (h3 : t.k ≠ 5 → ∀ us q2, LexL 0 (bys b) us q2 0 → ∀ W, LaidAll W → Calls Tryd.prog 21 #[.string (s.extract 0 (t.p + t.t.size) ++ ⟨#[32]⟩ ++ b)] W (fun E W' => Below W.heap.size W W' ∧ ∃ (o8 : Int) (nm : ByteArray) (aa : Option Addr) (an ac : Nat) (sa : Option Addr) (sn sc : Nat), E = .returned (.tuple #[.agg #[.int .u8 o8, .string nm, .slice aa an ac, .slice sa sn sc], .int .i64 (t.p : Int), .int .i64 50]))) : Calls Tryd.prog 5 #[.string s, .string b] w (RetOk w) := by
  have HA := Lib.hid (awake_any w hL.signs hL.levels hL.rows)
  unfold RetA1 at HA
  have HL := Lib.hid hL
  obtain ⟨n, hn⟩ : ∃ n, n = s.size := ⟨_, rfl⟩
  obtain ⟨n2, hn2⟩ : ∃ n2, n2 = b.size := ⟨_, rfl⟩
  rw [← hn] at hl
  rw [← hn2] at hl2
  have hd : ¬ (1500 : Int) < (n : Int) := by omega
  have hd2 : ¬ (1000 : Int) < (n2 : Int) := by omega
  have hm1 : s.size = n := hn.symm
  have hm2 : b.size = n2 := hn2.symm
  clear hn hn2
  have hT := tsok_of_lex (l := bys s) (by show s.size ≤ 16384; omega) hX
  have hx := fun (W : World) (hB : Below w.heap.size w W) => lexT_any W s (by omega) (hL.below hB).signs ts q hX
  have HX := Lib.hid hx
  have HC := Lib.hid h1
  have HC2 := Lib.hid h2
  have HC3 := Lib.hid h3
  have hgr := lex_grow hX
  have HGR := Lib.hid hgr
  have hpl := (lex_places hX).2 t (List.mem_of_getElem? ht)
  have hkt := (List.getElem?_eq_some_iff.1 ht).1
  obtain ⟨nl, hnl⟩ : ∃ nl, nl = ts.length := ⟨_, rfl⟩
  have hnl2 : nl ≤ 20000 := by have := hT.en.len; have := hT.le; omega
  simp only [← hnl] at HX
  have HNL := Lib.hid hnl
  have HTT := Lib.hid ht
  obtain ⟨tk, tt, tp⟩ := t
  simp only at HC HC2 HC3 hpl ⊢
  have hps : tp + tt.size ≤ n := by have : (bys s).length = n := hm1; omega
  have hKl : K < nl := by omega
  have HLB : Hid (∃ us q2 e2, LexL 0 (bys b) us q2 e2) := Lib.hid (lex_total _ (bys b) (Nat.le_refl _) 0)
  have HB16 : Hid (b.size ≤ 16384) := Lib.hid (by omega)
  clear hL hl hl2 h1 h2 h3 hx hX hT hgr hnl ht hpl hkt
  go_enter Tryd.func5, Tryd.ntmps5
  go_wp2_with (fail)
  go_at_call 9
  with_reducible refine HA.out.mono ?_
  rintro _ w1 ⟨rfl, hB⟩
  have HB := Lib.hid hB
  clear hB
  go_wp2_with (fail)
  go_at_call 21
  with_reducible refine (HC.out _ (HL.out.below HB.out)).mono ?_
  rintro _ w2 ⟨hB, a0, a1, a2, a3, a4, a5, a6, a7, rfl⟩
  have HB := Lib.hid ((HB.out.trans (hB.mono HB.out.size)).alloc (HB.out.trans (hB.mono HB.out.size)).size (.cells #[.int .u8 a0, .string a1, .slice a2 a3 a4, .slice a5 a6 a7] 25))
  clear hB
  go_wp2_with (fail)
  go_at_call 22
  with_reducible refine (HX.out _ HB.out).mono ?_
  rintro _ w3 ⟨hB, g, c, rfl, hg1, hg2, hTK⟩
  have HB := Lib.hid (HB.out.trans (hB.mono HB.out.size))
  have HTK := Lib.hid hTK
  have HG := Lib.hid hg2
  clear hB hg1 hg2 hTK
  go_wp2_with (fail)
  go_loopw [11] (fun i wr => ∃ j : Nat, j ≤ K ∧ i = .int .i64 j ∧ Below w3.heap.size w3 wr) (fun i _ => nl - (intOf i).toNat)
  case atStart => exact ⟨0, by omega, rfl, Below.refl _ _⟩
  case round =>
    obtain ⟨j, hj, rfl, hB⟩ := hrel
    have HBR := Lib.hid hB
    have hjn : (j : Int) < (nl : Int) := by omega
    have j0 : (0 : Int) ≤ (j : Int) := by omega
    by_cases hjK : j < K
    · obtain ⟨u, htj⟩ : ∃ u, ts[j]? = some u := ⟨_, List.getElem?_eq_getElem (by rw [← HNL.out]; omega)⟩
      have hc2 := (hB.cell (p := ⟨g, j * 3 + 2, none⟩) HG.out).trans (HTK.out.c2 j u htj)
      have hlt := HGR.out j K u _ hjK htj HTT.out
      simp only at hlt
      have hne : ((u.p : Int) != (tp : Int)) = true := by simp; omega
      obtain ⟨up, hup⟩ : ∃ up, up = u.p := ⟨_, rfl⟩
      rw [← hup] at hc2 hne
      clear hup hlt htj hB
      go_wp2_with (fail)
      go_roundw
      case rel => exact ⟨j + 1, by omega, by go_num, HBR.out⟩
      case measure => simp [intOf]; omega
    · obtain rfl : j = K := by omega
      have hc0 := (hB.cell (p := ⟨g, j * 3, none⟩) HG.out).trans (HTK.out.c0 j _ HTT.out)
      have hc1 := (hB.cell (p := ⟨g, j * 3 + 1, none⟩) HG.out).trans (HTK.out.c1 j _ HTT.out)
      have hc2 := (hB.cell (p := ⟨g, j * 3 + 2, none⟩) HG.out).trans (HTK.out.c2 j _ HTT.out)
      simp only at hc0 hc1 hc2
      clear hB
      go_wp2_with (fail)
      go_at_call 21
      have hb4 := HB.out.trans (HBR.out.mono HB.out.size)
      with_reducible refine (HC2.out _ (HL.out.below hb4)).mono ?_
      rintro _ w4 ⟨hB, b0, b1, b2, b3, b4, b5, b6, b7, rfl⟩
      have hgw : g < wr.heap.size := Nat.lt_of_lt_of_le HG.out HBR.out.size
      have hd0 := ((bl_al9 (.cells #[.int .u8 b0, .string b1, .slice b2 b3 b4, .slice b5 b6 b7] 25)).cell (p := ⟨g, j * 3, none⟩) (Nat.lt_of_lt_of_le hgw hB.size)).trans ((hB.cell (p := ⟨g, j * 3, none⟩) hgw).trans hc0)
      have hd1 := ((bl_al9 (.cells #[.int .u8 b0, .string b1, .slice b2 b3 b4, .slice b5 b6 b7] 25)).cell (p := ⟨g, j * 3 + 1, none⟩) (Nat.lt_of_lt_of_le hgw hB.size)).trans ((hB.cell (p := ⟨g, j * 3 + 1, none⟩) hgw).trans hc1)
      have HG4 := Lib.hid (show g < (w4.alloc (.cells #[.int .u8 b0, .string b1, .slice b2 b3 b4, .slice b5 b6 b7] 25)).heap.size by simp only [World.size_alloc]; have := hB.size; omega)
      have HB4 := Lib.hid ((hb4.trans (hB.mono hb4.size)).alloc (hb4.trans (hB.mono hb4.size)).size (.cells #[.int .u8 b0, .string b1, .slice b2 b3 b4, .slice b5 b6 b7] 25))
      have hltp : ¬ (tp : Int) < (tp : Int) := by omega
      clear hb4 hB hc0 hc1 hc2 hgw
      by_cases h5 : tk = 5
      · subst h5
        go_wp2_with (fail)
        go_ret
        exact ⟨rfl, HB4.out⟩
      have q5 : (tk == 5) = false := by simp [h5]
      have H5 := Lib.hid h5
      clear h5
      obtain ⟨us, q2, e2, hZ⟩ := HLB.out
      have HZ := Lib.hid hZ
      clear hZ
      by_cases he2 : e2 = 0
      · have hcx := lexT_any (w4.alloc (.cells #[.int .u8 b0, .string b1, .slice b2 b3 b4, .slice b5 b6 b7] 25)) b HB16.out (HL.out.below HB4.out).signs us q2 (by have := HZ.out; rw [he2] at this; exact this)
        have HCX := Lib.hid hcx
        have HE2 := Lib.hid he2
        obtain ⟨ul, hul⟩ : ∃ ul, ul = us.length := ⟨_, rfl⟩
        rw [← hul] at HCX
        clear hcx he2 hul
        go_wp2_with (fail)
        go_at_call 22
        with_reducible refine HCX.out.mono ?_
        rintro _ w5 ⟨hB, g2, c2, rfl, _, _, _⟩
        have hd1' := (hB.cell (p := ⟨g, j * 3 + 1, none⟩) HG4.out).trans hd1
        have HB5 := Lib.hid (HB4.out.trans (hB.mono HB4.out.size))
        clear hB hd0 hd1
        have hw1 : wrap64 ((tp : Int) + (tt.size : Int)) = ((tp + tt.size : Nat) : Int) := by rw [IntWalk.wrap64_in _ (by omega)]; omega
        obtain ⟨tz, htz⟩ : ∃ tz, tz = tt.size := ⟨_, rfl⟩
        rw [← htz] at hw1 hps
        have htz2 : tt.size = tz := htz.symm
        obtain ⟨pz, hpz⟩ : ∃ pz, pz = tp + tz := ⟨_, rfl⟩
        rw [← hpz] at hw1 hps
        have HPZ : Hid (tp + tt.size = pz) := Lib.hid (by rw [hpz, htz])
        clear htz hpz
        obtain ⟨sx, hsx⟩ : ∃ sx, sx = s.extract 0 pz := ⟨_, rfl⟩
        have hsx2 : s.extract 0 pz = sx := hsx.symm
        have hsz : sx.size ≤ 1500 := by clear hw1; rw [hsx]; simp; omega
        have hc3 := HC3.out H5.out us q2 (by have := HZ.out; rw [HE2.out] at this; exact this) w5 (HL.out.below HB5.out)
        rw [HPZ.out, hsx2] at hc3
        have HCC := Lib.hid hc3
        go_upto_region 21 with (fail)
        have HSZ := Lib.hid hsz
        clear hc3 hsx hsz HZ HCX HX HC HC2 HC3 HLB HGR hd hd2 hm2 hnl2 hjn hj hjK hltp q5 H5 HE2 HPZ
        go_wp2_with (fail)
        all_goals try (exfalso; clear hw1; have h1 := HSZ.out; have h2 := HB16.out; omega)
        go_at_call 21
        with_reducible refine HCC.out.mono ?_
        rintro _ w6 ⟨hB, d0, d1, d2, d3, d4, d5, d6, d7, rfl⟩
        have HB6 := Lib.hid (HB5.out.trans (hB.mono HB5.out.size))
        clear hB hsx2
        go_wp2_with (fail)
        go_ret
        exact ⟨rfl, HB6.out⟩
      · have hcx := (lex_any (w4.alloc (.cells #[.int .u8 b0, .string b1, .slice b2 b3 b4, .slice b5 b6 b7] 25)) b HB16.out (HL.out.below HB4.out).signs us q2 e2 HZ.out).mono (R' := fun E W' => E = .returned (.tuple #[.slice none 0 0, .int .i64 q2, .int .i64 e2]) ∧ Below (w4.alloc (.cells #[.int .u8 b0, .string b1, .slice b2 b3 b4, .slice b5 b6 b7] 25)).heap.size (w4.alloc (.cells #[.int .u8 b0, .string b1, .slice b2 b3 b4, .slice b5 b6 b7] 25)) W') fun E W' ⟨hB, h⟩ => by
          rcases h with ⟨h0, _⟩ | ⟨_, h⟩
          · exact absurd h0 he2
          · exact ⟨h, hB⟩
        have HCX := Lib.hid hcx
        have qe2 : (e2 != 0) = true := by simp [he2]
        clear hcx he2
        go_wp2_with (fail)
        go_at_call 22
        with_reducible refine HCX.out.mono ?_
        rintro _ w5 ⟨rfl, hB⟩
        have HB5 := Lib.hid (HB4.out.trans (hB.mono HB4.out.size))
        clear hB
        go_wp2_with (fail)
        go_ret
        exact ⟨rfl, HB5.out⟩
set_option maxRecDepth 100000 in
set_option maxHeartbeats 8000000 in
theorem first_51_0 (w : World) (s b : ByteArray) (hL : LaidAll w) (hl : s.size ≤ 1500) (hl2 : b.size ≤ 1000) {ts : List Tok} {q K : Nat} {t : Tok} (hX : LexL 0 (bys s) ts q 0) (ht : ts[K]? = some t) (h1 : ∀ W, LaidAll W → Calls Tryd.prog 21 #[.string s] W (fun E W' => Below W.heap.size W W' ∧ ∃ (o8 : Int) (nm : ByteArray) (aa : Option Addr) (an ac : Nat) (sa : Option Addr) (sn sc : Nat), E = .returned (.tuple #[.agg #[.int .u8 o8, .string nm, .slice aa an ac, .slice sa sn sc], .int .i64 (t.p : Int), .int .i64 51])))
    {p2 : Nat} (h2 : ∀ W, LaidAll W → Calls Tryd.prog 21 #[.string (s.extract 0 t.p)] W (fun E W' => Below W.heap.size W W' ∧ ∃ (o8 : Int) (nm : ByteArray) (aa : Option Addr) (an ac : Nat) (sa : Option Addr) (sn sc : Nat), E = .returned (.tuple #[.agg #[.int .u8 o8, .string nm, .slice aa an ac, .slice sa sn sc], .int .i64 (p2 : Int), .int .i64 0])))
    (h3 : t.k ≠ 5 → ∀ us q2, LexL 0 (bys b) us q2 0 → ∀ W, LaidAll W → Calls Tryd.prog 21 #[.string (s.extract 0 (t.p + t.t.size) ++ ⟨#[32]⟩ ++ b)] W (fun E W' => Below W.heap.size W W' ∧ ∃ (o8 : Int) (nm : ByteArray) (aa : Option Addr) (an ac : Nat) (sa : Option Addr) (sn sc : Nat), E = .returned (.tuple #[.agg #[.int .u8 o8, .string nm, .slice aa an ac, .slice sa sn sc], .int .i64 (t.p : Int), .int .i64 51]))) : Calls Tryd.prog 5 #[.string s, .string b] w (RetOk w) := by
  have HA := Lib.hid (awake_any w hL.signs hL.levels hL.rows)
  unfold RetA1 at HA
  have HL := Lib.hid hL
  obtain ⟨n, hn⟩ : ∃ n, n = s.size := ⟨_, rfl⟩
  obtain ⟨n2, hn2⟩ : ∃ n2, n2 = b.size := ⟨_, rfl⟩
  rw [← hn] at hl
  rw [← hn2] at hl2
  have hd : ¬ (1500 : Int) < (n : Int) := by omega
  have hd2 : ¬ (1000 : Int) < (n2 : Int) := by omega
  have hm1 : s.size = n := hn.symm
  have hm2 : b.size = n2 := hn2.symm
  clear hn hn2
  have hT := tsok_of_lex (l := bys s) (by show s.size ≤ 16384; omega) hX
  have hx := fun (W : World) (hB : Below w.heap.size w W) => lexT_any W s (by omega) (hL.below hB).signs ts q hX
  have HX := Lib.hid hx
  have HC := Lib.hid h1
  have HC2 := Lib.hid h2
  have HC3 := Lib.hid h3
  have hgr := lex_grow hX
  have HGR := Lib.hid hgr
  have hpl := (lex_places hX).2 t (List.mem_of_getElem? ht)
  have hkt := (List.getElem?_eq_some_iff.1 ht).1
  obtain ⟨nl, hnl⟩ : ∃ nl, nl = ts.length := ⟨_, rfl⟩
  have hnl2 : nl ≤ 20000 := by have := hT.en.len; have := hT.le; omega
  simp only [← hnl] at HX
  have HNL := Lib.hid hnl
  have HTT := Lib.hid ht
  obtain ⟨tk, tt, tp⟩ := t
  simp only at HC HC2 HC3 hpl ⊢
  have hps : tp + tt.size ≤ n := by have : (bys s).length = n := hm1; omega
  have hKl : K < nl := by omega
  have HLB : Hid (∃ us q2 e2, LexL 0 (bys b) us q2 e2) := Lib.hid (lex_total _ (bys b) (Nat.le_refl _) 0)
  have HB16 : Hid (b.size ≤ 16384) := Lib.hid (by omega)
  clear hL hl hl2 h1 h2 h3 hx hX hT hgr hnl ht hpl hkt
  go_enter Tryd.func5, Tryd.ntmps5
  go_wp2_with (fail)
  go_at_call 9
  with_reducible refine HA.out.mono ?_
  rintro _ w1 ⟨rfl, hB⟩
  have HB := Lib.hid hB
  clear hB
  go_wp2_with (fail)
  go_at_call 21
  with_reducible refine (HC.out _ (HL.out.below HB.out)).mono ?_
  rintro _ w2 ⟨hB, a0, a1, a2, a3, a4, a5, a6, a7, rfl⟩
  have HB := Lib.hid ((HB.out.trans (hB.mono HB.out.size)).alloc (HB.out.trans (hB.mono HB.out.size)).size (.cells #[.int .u8 a0, .string a1, .slice a2 a3 a4, .slice a5 a6 a7] 25))
  clear hB
  go_wp2_with (fail)
  go_at_call 22
  with_reducible refine (HX.out _ HB.out).mono ?_
  rintro _ w3 ⟨hB, g, c, rfl, hg1, hg2, hTK⟩
  have HB := Lib.hid (HB.out.trans (hB.mono HB.out.size))
  have HTK := Lib.hid hTK
  have HG := Lib.hid hg2
  clear hB hg1 hg2 hTK
  go_wp2_with (fail)
  go_loopw [11] (fun i wr => ∃ j : Nat, j ≤ K ∧ i = .int .i64 j ∧ Below w3.heap.size w3 wr) (fun i _ => nl - (intOf i).toNat)
  case atStart => exact ⟨0, by omega, rfl, Below.refl _ _⟩
  case round =>
    obtain ⟨j, hj, rfl, hB⟩ := hrel
    have HBR := Lib.hid hB
    have hjn : (j : Int) < (nl : Int) := by omega
    have j0 : (0 : Int) ≤ (j : Int) := by omega
    by_cases hjK : j < K
    · obtain ⟨u, htj⟩ : ∃ u, ts[j]? = some u := ⟨_, List.getElem?_eq_getElem (by rw [← HNL.out]; omega)⟩
      have hc2 := (hB.cell (p := ⟨g, j * 3 + 2, none⟩) HG.out).trans (HTK.out.c2 j u htj)
      have hlt := HGR.out j K u _ hjK htj HTT.out
      simp only at hlt
      have hne : ((u.p : Int) != (tp : Int)) = true := by simp; omega
      obtain ⟨up, hup⟩ : ∃ up, up = u.p := ⟨_, rfl⟩
      rw [← hup] at hc2 hne
      clear hup hlt htj hB
      go_wp2_with (fail)
      go_roundw
      case rel => exact ⟨j + 1, by omega, by go_num, HBR.out⟩
      case measure => simp [intOf]; omega
    · obtain rfl : j = K := by omega
      have hc0 := (hB.cell (p := ⟨g, j * 3, none⟩) HG.out).trans (HTK.out.c0 j _ HTT.out)
      have hc1 := (hB.cell (p := ⟨g, j * 3 + 1, none⟩) HG.out).trans (HTK.out.c1 j _ HTT.out)
      have hc2 := (hB.cell (p := ⟨g, j * 3 + 2, none⟩) HG.out).trans (HTK.out.c2 j _ HTT.out)
      simp only at hc0 hc1 hc2
      clear hB
      go_wp2_with (fail)
      go_at_call 21
      have hb4 := HB.out.trans (HBR.out.mono HB.out.size)
      with_reducible refine (HC2.out _ (HL.out.below hb4)).mono ?_
      rintro _ w4 ⟨hB, b0, b1, b2, b3, b4, b5, b6, b7, rfl⟩
      have hgw : g < wr.heap.size := Nat.lt_of_lt_of_le HG.out HBR.out.size
      have hd0 := ((bl_al9 (.cells #[.int .u8 b0, .string b1, .slice b2 b3 b4, .slice b5 b6 b7] 25)).cell (p := ⟨g, j * 3, none⟩) (Nat.lt_of_lt_of_le hgw hB.size)).trans ((hB.cell (p := ⟨g, j * 3, none⟩) hgw).trans hc0)
      have hd1 := ((bl_al9 (.cells #[.int .u8 b0, .string b1, .slice b2 b3 b4, .slice b5 b6 b7] 25)).cell (p := ⟨g, j * 3 + 1, none⟩) (Nat.lt_of_lt_of_le hgw hB.size)).trans ((hB.cell (p := ⟨g, j * 3 + 1, none⟩) hgw).trans hc1)
      have HG4 := Lib.hid (show g < (w4.alloc (.cells #[.int .u8 b0, .string b1, .slice b2 b3 b4, .slice b5 b6 b7] 25)).heap.size by simp only [World.size_alloc]; have := hB.size; omega)
      have HB4 := Lib.hid ((hb4.trans (hB.mono hb4.size)).alloc (hb4.trans (hB.mono hb4.size)).size (.cells #[.int .u8 b0, .string b1, .slice b2 b3 b4, .slice b5 b6 b7] 25))
      have hltp : ¬ (tp : Int) < (tp : Int) := by omega
      clear hb4 hB hc0 hc1 hc2 hgw
      by_cases h5 : tk = 5
      · subst h5
        go_wp2_with (fail)
        go_ret
        exact ⟨rfl, HB4.out⟩
      have q5 : (tk == 5) = false := by simp [h5]
      have H5 := Lib.hid h5
      clear h5
      obtain ⟨us, q2, e2, hZ⟩ := HLB.out
      have HZ := Lib.hid hZ
      clear hZ
      by_cases he2 : e2 = 0
      · have hcx := lexT_any (w4.alloc (.cells #[.int .u8 b0, .string b1, .slice b2 b3 b4, .slice b5 b6 b7] 25)) b HB16.out (HL.out.below HB4.out).signs us q2 (by have := HZ.out; rw [he2] at this; exact this)
        have HCX := Lib.hid hcx
        have HE2 := Lib.hid he2
        obtain ⟨ul, hul⟩ : ∃ ul, ul = us.length := ⟨_, rfl⟩
        rw [← hul] at HCX
        clear hcx he2 hul
        go_wp2_with (fail)
        go_at_call 22
        with_reducible refine HCX.out.mono ?_
        rintro _ w5 ⟨hB, g2, c2, rfl, _, _, _⟩
        have hd1' := (hB.cell (p := ⟨g, j * 3 + 1, none⟩) HG4.out).trans hd1
        have HB5 := Lib.hid (HB4.out.trans (hB.mono HB4.out.size))
        clear hB hd0 hd1
        have hw1 : wrap64 ((tp : Int) + (tt.size : Int)) = ((tp + tt.size : Nat) : Int) := by rw [IntWalk.wrap64_in _ (by omega)]; omega
        obtain ⟨tz, htz⟩ : ∃ tz, tz = tt.size := ⟨_, rfl⟩
        rw [← htz] at hw1 hps
        have htz2 : tt.size = tz := htz.symm
        obtain ⟨pz, hpz⟩ : ∃ pz, pz = tp + tz := ⟨_, rfl⟩
        rw [← hpz] at hw1 hps
        have HPZ : Hid (tp + tt.size = pz) := Lib.hid (by rw [hpz, htz])
        clear htz hpz
        obtain ⟨sx, hsx⟩ : ∃ sx, sx = s.extract 0 pz := ⟨_, rfl⟩
        have hsx2 : s.extract 0 pz = sx := hsx.symm
        have hsz : sx.size ≤ 1500 := by clear hw1; rw [hsx]; simp; omega
        have hc3 := HC3.out H5.out us q2 (by have := HZ.out; rw [HE2.out] at this; exact this) w5 (HL.out.below HB5.out)
        rw [HPZ.out, hsx2] at hc3
        have HCC := Lib.hid hc3
        go_upto_region 21 with (fail)
        have HSZ := Lib.hid hsz
        clear hc3 hsx hsz HZ HCX HX HC HC2 HC3 HLB HGR hd hd2 hm2 hnl2 hjn hj hjK hltp q5 H5 HE2 HPZ
        go_wp2_with (fail)
        all_goals try (exfalso; clear hw1; have h1 := HSZ.out; have h2 := HB16.out; omega)
        go_at_call 21
        with_reducible refine HCC.out.mono ?_
        rintro _ w6 ⟨hB, d0, d1, d2, d3, d4, d5, d6, d7, rfl⟩
        have HB6 := Lib.hid (HB5.out.trans (hB.mono HB5.out.size))
        clear hB hsx2
        go_wp2_with (fail)
        go_ret
        exact ⟨rfl, HB6.out⟩
      · have hcx := (lex_any (w4.alloc (.cells #[.int .u8 b0, .string b1, .slice b2 b3 b4, .slice b5 b6 b7] 25)) b HB16.out (HL.out.below HB4.out).signs us q2 e2 HZ.out).mono (R' := fun E W' => E = .returned (.tuple #[.slice none 0 0, .int .i64 q2, .int .i64 e2]) ∧ Below (w4.alloc (.cells #[.int .u8 b0, .string b1, .slice b2 b3 b4, .slice b5 b6 b7] 25)).heap.size (w4.alloc (.cells #[.int .u8 b0, .string b1, .slice b2 b3 b4, .slice b5 b6 b7] 25)) W') fun E W' ⟨hB, h⟩ => by
          rcases h with ⟨h0, _⟩ | ⟨_, h⟩
          · exact absurd h0 he2
          · exact ⟨h, hB⟩
        have HCX := Lib.hid hcx
        have qe2 : (e2 != 0) = true := by simp [he2]
        clear hcx he2
        go_wp2_with (fail)
        go_at_call 22
        with_reducible refine HCX.out.mono ?_
        rintro _ w5 ⟨rfl, hB⟩
        have HB5 := Lib.hid (HB4.out.trans (hB.mono HB4.out.size))
        clear hB
        go_wp2_with (fail)
        go_ret
        exact ⟨rfl, HB5.out⟩
set_option maxRecDepth 100000 in
set_option maxHeartbeats 8000000 in
theorem first_51_3 (w : World) (s b : ByteArray) (hL : LaidAll w) (hl : s.size ≤ 1500) (hl2 : b.size ≤ 1000) {ts : List Tok} {q K : Nat} {t : Tok} (hX : LexL 0 (bys s) ts q 0) (ht : ts[K]? = some t) (h1 : ∀ W, LaidAll W → Calls Tryd.prog 21 #[.string s] W (fun E W' => Below W.heap.size W W' ∧ ∃ (o8 : Int) (nm : ByteArray) (aa : Option Addr) (an ac : Nat) (sa : Option Addr) (sn sc : Nat), E = .returned (.tuple #[.agg #[.int .u8 o8, .string nm, .slice aa an ac, .slice sa sn sc], .int .i64 (t.p : Int), .int .i64 51])))
    {p2 : Nat} (h2 : ∀ W, LaidAll W → Calls Tryd.prog 21 #[.string (s.extract 0 t.p)] W (fun E W' => Below W.heap.size W W' ∧ ∃ (o8 : Int) (nm : ByteArray) (aa : Option Addr) (an ac : Nat) (sa : Option Addr) (sn sc : Nat), E = .returned (.tuple #[.agg #[.int .u8 o8, .string nm, .slice aa an ac, .slice sa sn sc], .int .i64 (p2 : Int), .int .i64 3])))
    (h3 : t.k ≠ 5 → ∀ us q2, LexL 0 (bys b) us q2 0 → ∀ W, LaidAll W → Calls Tryd.prog 21 #[.string (s.extract 0 (t.p + t.t.size) ++ ⟨#[32]⟩ ++ b)] W (fun E W' => Below W.heap.size W W' ∧ ∃ (o8 : Int) (nm : ByteArray) (aa : Option Addr) (an ac : Nat) (sa : Option Addr) (sn sc : Nat), E = .returned (.tuple #[.agg #[.int .u8 o8, .string nm, .slice aa an ac, .slice sa sn sc], .int .i64 (t.p : Int), .int .i64 51]))) : Calls Tryd.prog 5 #[.string s, .string b] w (RetOk w) := by
  have HA := Lib.hid (awake_any w hL.signs hL.levels hL.rows)
  unfold RetA1 at HA
  have HL := Lib.hid hL
  obtain ⟨n, hn⟩ : ∃ n, n = s.size := ⟨_, rfl⟩
  obtain ⟨n2, hn2⟩ : ∃ n2, n2 = b.size := ⟨_, rfl⟩
  rw [← hn] at hl
  rw [← hn2] at hl2
  have hd : ¬ (1500 : Int) < (n : Int) := by omega
  have hd2 : ¬ (1000 : Int) < (n2 : Int) := by omega
  have hm1 : s.size = n := hn.symm
  have hm2 : b.size = n2 := hn2.symm
  clear hn hn2
  have hT := tsok_of_lex (l := bys s) (by show s.size ≤ 16384; omega) hX
  have hx := fun (W : World) (hB : Below w.heap.size w W) => lexT_any W s (by omega) (hL.below hB).signs ts q hX
  have HX := Lib.hid hx
  have HC := Lib.hid h1
  have HC2 := Lib.hid h2
  have HC3 := Lib.hid h3
  have hgr := lex_grow hX
  have HGR := Lib.hid hgr
  have hpl := (lex_places hX).2 t (List.mem_of_getElem? ht)
  have hkt := (List.getElem?_eq_some_iff.1 ht).1
  obtain ⟨nl, hnl⟩ : ∃ nl, nl = ts.length := ⟨_, rfl⟩
  have hnl2 : nl ≤ 20000 := by have := hT.en.len; have := hT.le; omega
  simp only [← hnl] at HX
  have HNL := Lib.hid hnl
  have HTT := Lib.hid ht
  obtain ⟨tk, tt, tp⟩ := t
  simp only at HC HC2 HC3 hpl ⊢
  have hps : tp + tt.size ≤ n := by have : (bys s).length = n := hm1; omega
  have hKl : K < nl := by omega
  have HLB : Hid (∃ us q2 e2, LexL 0 (bys b) us q2 e2) := Lib.hid (lex_total _ (bys b) (Nat.le_refl _) 0)
  have HB16 : Hid (b.size ≤ 16384) := Lib.hid (by omega)
  clear hL hl hl2 h1 h2 h3 hx hX hT hgr hnl ht hpl hkt
  go_enter Tryd.func5, Tryd.ntmps5
  go_wp2_with (fail)
  go_at_call 9
  with_reducible refine HA.out.mono ?_
  rintro _ w1 ⟨rfl, hB⟩
  have HB := Lib.hid hB
  clear hB
  go_wp2_with (fail)
  go_at_call 21
  with_reducible refine (HC.out _ (HL.out.below HB.out)).mono ?_
  rintro _ w2 ⟨hB, a0, a1, a2, a3, a4, a5, a6, a7, rfl⟩
  have HB := Lib.hid ((HB.out.trans (hB.mono HB.out.size)).alloc (HB.out.trans (hB.mono HB.out.size)).size (.cells #[.int .u8 a0, .string a1, .slice a2 a3 a4, .slice a5 a6 a7] 25))
  clear hB
  go_wp2_with (fail)
  go_at_call 22
  with_reducible refine (HX.out _ HB.out).mono ?_
  rintro _ w3 ⟨hB, g, c, rfl, hg1, hg2, hTK⟩
  have HB := Lib.hid (HB.out.trans (hB.mono HB.out.size))
  have HTK := Lib.hid hTK
  have HG := Lib.hid hg2
  clear hB hg1 hg2 hTK
  go_wp2_with (fail)
  go_loopw [11] (fun i wr => ∃ j : Nat, j ≤ K ∧ i = .int .i64 j ∧ Below w3.heap.size w3 wr) (fun i _ => nl - (intOf i).toNat)
  case atStart => exact ⟨0, by omega, rfl, Below.refl _ _⟩
  case round =>
    obtain ⟨j, hj, rfl, hB⟩ := hrel
    have HBR := Lib.hid hB
    have hjn : (j : Int) < (nl : Int) := by omega
    have j0 : (0 : Int) ≤ (j : Int) := by omega
    by_cases hjK : j < K
    · obtain ⟨u, htj⟩ : ∃ u, ts[j]? = some u := ⟨_, List.getElem?_eq_getElem (by rw [← HNL.out]; omega)⟩
      have hc2 := (hB.cell (p := ⟨g, j * 3 + 2, none⟩) HG.out).trans (HTK.out.c2 j u htj)
      have hlt := HGR.out j K u _ hjK htj HTT.out
      simp only at hlt
      have hne : ((u.p : Int) != (tp : Int)) = true := by simp; omega
      obtain ⟨up, hup⟩ : ∃ up, up = u.p := ⟨_, rfl⟩
      rw [← hup] at hc2 hne
      clear hup hlt htj hB
      go_wp2_with (fail)
      go_roundw
      case rel => exact ⟨j + 1, by omega, by go_num, HBR.out⟩
      case measure => simp [intOf]; omega
    · obtain rfl : j = K := by omega
      have hc0 := (hB.cell (p := ⟨g, j * 3, none⟩) HG.out).trans (HTK.out.c0 j _ HTT.out)
      have hc1 := (hB.cell (p := ⟨g, j * 3 + 1, none⟩) HG.out).trans (HTK.out.c1 j _ HTT.out)
      have hc2 := (hB.cell (p := ⟨g, j * 3 + 2, none⟩) HG.out).trans (HTK.out.c2 j _ HTT.out)
      simp only at hc0 hc1 hc2
      clear hB
      go_wp2_with (fail)
      go_at_call 21
      have hb4 := HB.out.trans (HBR.out.mono HB.out.size)
      with_reducible refine (HC2.out _ (HL.out.below hb4)).mono ?_
      rintro _ w4 ⟨hB, b0, b1, b2, b3, b4, b5, b6, b7, rfl⟩
      have hgw : g < wr.heap.size := Nat.lt_of_lt_of_le HG.out HBR.out.size
      have hd0 := ((bl_al9 (.cells #[.int .u8 b0, .string b1, .slice b2 b3 b4, .slice b5 b6 b7] 25)).cell (p := ⟨g, j * 3, none⟩) (Nat.lt_of_lt_of_le hgw hB.size)).trans ((hB.cell (p := ⟨g, j * 3, none⟩) hgw).trans hc0)
      have hd1 := ((bl_al9 (.cells #[.int .u8 b0, .string b1, .slice b2 b3 b4, .slice b5 b6 b7] 25)).cell (p := ⟨g, j * 3 + 1, none⟩) (Nat.lt_of_lt_of_le hgw hB.size)).trans ((hB.cell (p := ⟨g, j * 3 + 1, none⟩) hgw).trans hc1)
      have HG4 := Lib.hid (show g < (w4.alloc (.cells #[.int .u8 b0, .string b1, .slice b2 b3 b4, .slice b5 b6 b7] 25)).heap.size by simp only [World.size_alloc]; have := hB.size; omega)
      have HB4 := Lib.hid ((hb4.trans (hB.mono hb4.size)).alloc (hb4.trans (hB.mono hb4.size)).size (.cells #[.int .u8 b0, .string b1, .slice b2 b3 b4, .slice b5 b6 b7] 25))
      have hltp : ¬ (tp : Int) < (tp : Int) := by omega
      clear hb4 hB hc0 hc1 hc2 hgw
      by_cases h5 : tk = 5
      · subst h5
        go_wp2_with (fail)
        go_ret
        exact ⟨rfl, HB4.out⟩
      have q5 : (tk == 5) = false := by simp [h5]
      have H5 := Lib.hid h5
      clear h5
      obtain ⟨us, q2, e2, hZ⟩ := HLB.out
      have HZ := Lib.hid hZ
      clear hZ
      by_cases he2 : e2 = 0
      · have hcx := lexT_any (w4.alloc (.cells #[.int .u8 b0, .string b1, .slice b2 b3 b4, .slice b5 b6 b7] 25)) b HB16.out (HL.out.below HB4.out).signs us q2 (by have := HZ.out; rw [he2] at this; exact this)
        have HCX := Lib.hid hcx
        have HE2 := Lib.hid he2
        obtain ⟨ul, hul⟩ : ∃ ul, ul = us.length := ⟨_, rfl⟩
        rw [← hul] at HCX
        clear hcx he2 hul
        go_wp2_with (fail)
        go_at_call 22
        with_reducible refine HCX.out.mono ?_
        rintro _ w5 ⟨hB, g2, c2, rfl, _, _, _⟩
        have hd1' := (hB.cell (p := ⟨g, j * 3 + 1, none⟩) HG4.out).trans hd1
        have HB5 := Lib.hid (HB4.out.trans (hB.mono HB4.out.size))
        clear hB hd0 hd1
        have hw1 : wrap64 ((tp : Int) + (tt.size : Int)) = ((tp + tt.size : Nat) : Int) := by rw [IntWalk.wrap64_in _ (by omega)]; omega
        obtain ⟨tz, htz⟩ : ∃ tz, tz = tt.size := ⟨_, rfl⟩
        rw [← htz] at hw1 hps
        have htz2 : tt.size = tz := htz.symm
        obtain ⟨pz, hpz⟩ : ∃ pz, pz = tp + tz := ⟨_, rfl⟩
        rw [← hpz] at hw1 hps
        have HPZ : Hid (tp + tt.size = pz) := Lib.hid (by rw [hpz, htz])
        clear htz hpz
        obtain ⟨sx, hsx⟩ : ∃ sx, sx = s.extract 0 pz := ⟨_, rfl⟩
        have hsx2 : s.extract 0 pz = sx := hsx.symm
        have hsz : sx.size ≤ 1500 := by clear hw1; rw [hsx]; simp; omega
        have hc3 := HC3.out H5.out us q2 (by have := HZ.out; rw [HE2.out] at this; exact this) w5 (HL.out.below HB5.out)
        rw [HPZ.out, hsx2] at hc3
        have HCC := Lib.hid hc3
        go_upto_region 21 with (fail)
        have HSZ := Lib.hid hsz
        clear hc3 hsx hsz HZ HCX HX HC HC2 HC3 HLB HGR hd hd2 hm2 hnl2 hjn hj hjK hltp q5 H5 HE2 HPZ
        go_wp2_with (fail)
        all_goals try (exfalso; clear hw1; have h1 := HSZ.out; have h2 := HB16.out; omega)
        go_at_call 21
        with_reducible refine HCC.out.mono ?_
        rintro _ w6 ⟨hB, d0, d1, d2, d3, d4, d5, d6, d7, rfl⟩
        have HB6 := Lib.hid (HB5.out.trans (hB.mono HB5.out.size))
        clear hB hsx2
        go_wp2_with (fail)
        go_ret
        exact ⟨rfl, HB6.out⟩
      · have hcx := (lex_any (w4.alloc (.cells #[.int .u8 b0, .string b1, .slice b2 b3 b4, .slice b5 b6 b7] 25)) b HB16.out (HL.out.below HB4.out).signs us q2 e2 HZ.out).mono (R' := fun E W' => E = .returned (.tuple #[.slice none 0 0, .int .i64 q2, .int .i64 e2]) ∧ Below (w4.alloc (.cells #[.int .u8 b0, .string b1, .slice b2 b3 b4, .slice b5 b6 b7] 25)).heap.size (w4.alloc (.cells #[.int .u8 b0, .string b1, .slice b2 b3 b4, .slice b5 b6 b7] 25)) W') fun E W' ⟨hB, h⟩ => by
          rcases h with ⟨h0, _⟩ | ⟨_, h⟩
          · exact absurd h0 he2
          · exact ⟨h, hB⟩
        have HCX := Lib.hid hcx
        have qe2 : (e2 != 0) = true := by simp [he2]
        clear hcx he2
        go_wp2_with (fail)
        go_at_call 22
        with_reducible refine HCX.out.mono ?_
        rintro _ w5 ⟨rfl, hB⟩
        have HB5 := Lib.hid (HB4.out.trans (hB.mono HB4.out.size))
        clear hB
        go_wp2_with (fail)
        go_ret
        exact ⟨rfl, HB5.out⟩
set_option maxRecDepth 100000 in
set_option maxHeartbeats 8000000 in
theorem first_51_50 (w : World) (s b : ByteArray) (hL : LaidAll w) (hl : s.size ≤ 1500) (hl2 : b.size ≤ 1000) {ts : List Tok} {q K : Nat} {t : Tok} (hX : LexL 0 (bys s) ts q 0) (ht : ts[K]? = some t) (h1 : ∀ W, LaidAll W → Calls Tryd.prog 21 #[.string s] W (fun E W' => Below W.heap.size W W' ∧ ∃ (o8 : Int) (nm : ByteArray) (aa : Option Addr) (an ac : Nat) (sa : Option Addr) (sn sc : Nat), E = .returned (.tuple #[.agg #[.int .u8 o8, .string nm, .slice aa an ac, .slice sa sn sc], .int .i64 (t.p : Int), .int .i64 51])))
    (h2 : ∀ W, LaidAll W → Calls Tryd.prog 21 #[.string (s.extract 0 t.p)] W (fun E W' => Below W.heap.size W W' ∧ ∃ (o8 : Int) (nm : ByteArray) (aa : Option Addr) (an ac : Nat) (sa : Option Addr) (sn sc : Nat), E = .returned (.tuple #[.agg #[.int .u8 o8, .string nm, .slice aa an ac, .slice sa sn sc], .int .i64 (t.p : Int), .int .i64 50])))
    (h3 : t.k ≠ 5 → ∀ us q2, LexL 0 (bys b) us q2 0 → ∀ W, LaidAll W → Calls Tryd.prog 21 #[.string (s.extract 0 (t.p + t.t.size) ++ ⟨#[32]⟩ ++ b)] W (fun E W' => Below W.heap.size W W' ∧ ∃ (o8 : Int) (nm : ByteArray) (aa : Option Addr) (an ac : Nat) (sa : Option Addr) (sn sc : Nat), E = .returned (.tuple #[.agg #[.int .u8 o8, .string nm, .slice aa an ac, .slice sa sn sc], .int .i64 (t.p : Int), .int .i64 51]))) : Calls Tryd.prog 5 #[.string s, .string b] w (RetOk w) := by
  have HA := Lib.hid (awake_any w hL.signs hL.levels hL.rows)
  unfold RetA1 at HA
  have HL := Lib.hid hL
  obtain ⟨n, hn⟩ : ∃ n, n = s.size := ⟨_, rfl⟩
  obtain ⟨n2, hn2⟩ : ∃ n2, n2 = b.size := ⟨_, rfl⟩
  rw [← hn] at hl
  rw [← hn2] at hl2
  have hd : ¬ (1500 : Int) < (n : Int) := by omega
  have hd2 : ¬ (1000 : Int) < (n2 : Int) := by omega
  have hm1 : s.size = n := hn.symm
  have hm2 : b.size = n2 := hn2.symm
  clear hn hn2
  have hT := tsok_of_lex (l := bys s) (by show s.size ≤ 16384; omega) hX
  have hx := fun (W : World) (hB : Below w.heap.size w W) => lexT_any W s (by omega) (hL.below hB).signs ts q hX
  have HX := Lib.hid hx
  have HC := Lib.hid h1
  have HC2 := Lib.hid h2
  have HC3 := Lib.hid h3
  have hgr := lex_grow hX
  have HGR := Lib.hid hgr
  have hpl := (lex_places hX).2 t (List.mem_of_getElem? ht)
  have hkt := (List.getElem?_eq_some_iff.1 ht).1
  obtain ⟨nl, hnl⟩ : ∃ nl, nl = ts.length := ⟨_, rfl⟩
  have hnl2 : nl ≤ 20000 := by have := hT.en.len; have := hT.le; omega
  simp only [← hnl] at HX
  have HNL := Lib.hid hnl
  have HTT := Lib.hid ht
  obtain ⟨tk, tt, tp⟩ := t
  simp only at HC HC2 HC3 hpl ⊢
  have hps : tp + tt.size ≤ n := by have : (bys s).length = n := hm1; omega
  have hKl : K < nl := by omega
  have HLB : Hid (∃ us q2 e2, LexL 0 (bys b) us q2 e2) := Lib.hid (lex_total _ (bys b) (Nat.le_refl _) 0)
  have HB16 : Hid (b.size ≤ 16384) := Lib.hid (by omega)
  clear hL hl hl2 h1 h2 h3 hx hX hT hgr hnl ht hpl hkt
  go_enter Tryd.func5, Tryd.ntmps5
  go_wp2_with (fail)
  go_at_call 9
  with_reducible refine HA.out.mono ?_
  rintro _ w1 ⟨rfl, hB⟩
  have HB := Lib.hid hB
  clear hB
  go_wp2_with (fail)
  go_at_call 21
  with_reducible refine (HC.out _ (HL.out.below HB.out)).mono ?_
  rintro _ w2 ⟨hB, a0, a1, a2, a3, a4, a5, a6, a7, rfl⟩
  have HB := Lib.hid ((HB.out.trans (hB.mono HB.out.size)).alloc (HB.out.trans (hB.mono HB.out.size)).size (.cells #[.int .u8 a0, .string a1, .slice a2 a3 a4, .slice a5 a6 a7] 25))
  clear hB
  go_wp2_with (fail)
  go_at_call 22
  with_reducible refine (HX.out _ HB.out).mono ?_
  rintro _ w3 ⟨hB, g, c, rfl, hg1, hg2, hTK⟩
  have HB := Lib.hid (HB.out.trans (hB.mono HB.out.size))
  have HTK := Lib.hid hTK
  have HG := Lib.hid hg2
  clear hB hg1 hg2 hTK
  go_wp2_with (fail)
  go_loopw [11] (fun i wr => ∃ j : Nat, j ≤ K ∧ i = .int .i64 j ∧ Below w3.heap.size w3 wr) (fun i _ => nl - (intOf i).toNat)
  case atStart => exact ⟨0, by omega, rfl, Below.refl _ _⟩
  case round =>
    obtain ⟨j, hj, rfl, hB⟩ := hrel
    have HBR := Lib.hid hB
    have hjn : (j : Int) < (nl : Int) := by omega
    have j0 : (0 : Int) ≤ (j : Int) := by omega
    by_cases hjK : j < K
    · obtain ⟨u, htj⟩ : ∃ u, ts[j]? = some u := ⟨_, List.getElem?_eq_getElem (by rw [← HNL.out]; omega)⟩
      have hc2 := (hB.cell (p := ⟨g, j * 3 + 2, none⟩) HG.out).trans (HTK.out.c2 j u htj)
      have hlt := HGR.out j K u _ hjK htj HTT.out
      simp only at hlt
      have hne : ((u.p : Int) != (tp : Int)) = true := by simp; omega
      obtain ⟨up, hup⟩ : ∃ up, up = u.p := ⟨_, rfl⟩
      rw [← hup] at hc2 hne
      clear hup hlt htj hB
      go_wp2_with (fail)
      go_roundw
      case rel => exact ⟨j + 1, by omega, by go_num, HBR.out⟩
      case measure => simp [intOf]; omega
    · obtain rfl : j = K := by omega
      have hc0 := (hB.cell (p := ⟨g, j * 3, none⟩) HG.out).trans (HTK.out.c0 j _ HTT.out)
      have hc1 := (hB.cell (p := ⟨g, j * 3 + 1, none⟩) HG.out).trans (HTK.out.c1 j _ HTT.out)
      have hc2 := (hB.cell (p := ⟨g, j * 3 + 2, none⟩) HG.out).trans (HTK.out.c2 j _ HTT.out)
      simp only at hc0 hc1 hc2
      clear hB
      go_wp2_with (fail)
      go_at_call 21
      have hb4 := HB.out.trans (HBR.out.mono HB.out.size)
      with_reducible refine (HC2.out _ (HL.out.below hb4)).mono ?_
      rintro _ w4 ⟨hB, b0, b1, b2, b3, b4, b5, b6, b7, rfl⟩
      have hgw : g < wr.heap.size := Nat.lt_of_lt_of_le HG.out HBR.out.size
      have hd0 := ((bl_al9 (.cells #[.int .u8 b0, .string b1, .slice b2 b3 b4, .slice b5 b6 b7] 25)).cell (p := ⟨g, j * 3, none⟩) (Nat.lt_of_lt_of_le hgw hB.size)).trans ((hB.cell (p := ⟨g, j * 3, none⟩) hgw).trans hc0)
      have hd1 := ((bl_al9 (.cells #[.int .u8 b0, .string b1, .slice b2 b3 b4, .slice b5 b6 b7] 25)).cell (p := ⟨g, j * 3 + 1, none⟩) (Nat.lt_of_lt_of_le hgw hB.size)).trans ((hB.cell (p := ⟨g, j * 3 + 1, none⟩) hgw).trans hc1)
      have HG4 := Lib.hid (show g < (w4.alloc (.cells #[.int .u8 b0, .string b1, .slice b2 b3 b4, .slice b5 b6 b7] 25)).heap.size by simp only [World.size_alloc]; have := hB.size; omega)
      have HB4 := Lib.hid ((hb4.trans (hB.mono hb4.size)).alloc (hb4.trans (hB.mono hb4.size)).size (.cells #[.int .u8 b0, .string b1, .slice b2 b3 b4, .slice b5 b6 b7] 25))
      have hltp : ¬ (tp : Int) < (tp : Int) := by omega
      clear hb4 hB hc0 hc1 hc2 hgw
      by_cases h5 : tk = 5
      · subst h5
        go_wp2_with (fail)
        go_ret
        exact ⟨rfl, HB4.out⟩
      have q5 : (tk == 5) = false := by simp [h5]
      have H5 := Lib.hid h5
      clear h5
      obtain ⟨us, q2, e2, hZ⟩ := HLB.out
      have HZ := Lib.hid hZ
      clear hZ
      by_cases he2 : e2 = 0
      · have hcx := lexT_any (w4.alloc (.cells #[.int .u8 b0, .string b1, .slice b2 b3 b4, .slice b5 b6 b7] 25)) b HB16.out (HL.out.below HB4.out).signs us q2 (by have := HZ.out; rw [he2] at this; exact this)
        have HCX := Lib.hid hcx
        have HE2 := Lib.hid he2
        obtain ⟨ul, hul⟩ : ∃ ul, ul = us.length := ⟨_, rfl⟩
        rw [← hul] at HCX
        clear hcx he2 hul
        go_wp2_with (fail)
        go_at_call 22
        with_reducible refine HCX.out.mono ?_
        rintro _ w5 ⟨hB, g2, c2, rfl, _, _, _⟩
        have hd1' := (hB.cell (p := ⟨g, j * 3 + 1, none⟩) HG4.out).trans hd1
        have HB5 := Lib.hid (HB4.out.trans (hB.mono HB4.out.size))
        clear hB hd0 hd1
        have hw1 : wrap64 ((tp : Int) + (tt.size : Int)) = ((tp + tt.size : Nat) : Int) := by rw [IntWalk.wrap64_in _ (by omega)]; omega
        obtain ⟨tz, htz⟩ : ∃ tz, tz = tt.size := ⟨_, rfl⟩
        rw [← htz] at hw1 hps
        have htz2 : tt.size = tz := htz.symm
        obtain ⟨pz, hpz⟩ : ∃ pz, pz = tp + tz := ⟨_, rfl⟩
        rw [← hpz] at hw1 hps
        have HPZ : Hid (tp + tt.size = pz) := Lib.hid (by rw [hpz, htz])
        clear htz hpz
        obtain ⟨sx, hsx⟩ : ∃ sx, sx = s.extract 0 pz := ⟨_, rfl⟩
        have hsx2 : s.extract 0 pz = sx := hsx.symm
        have hsz : sx.size ≤ 1500 := by clear hw1; rw [hsx]; simp; omega
        have hc3 := HC3.out H5.out us q2 (by have := HZ.out; rw [HE2.out] at this; exact this) w5 (HL.out.below HB5.out)
        rw [HPZ.out, hsx2] at hc3
        have HCC := Lib.hid hc3
        go_upto_region 21 with (fail)
        have HSZ := Lib.hid hsz
        clear hc3 hsx hsz HZ HCX HX HC HC2 HC3 HLB HGR hd hd2 hm2 hnl2 hjn hj hjK hltp q5 H5 HE2 HPZ
        go_wp2_with (fail)
        all_goals try (exfalso; clear hw1; have h1 := HSZ.out; have h2 := HB16.out; omega)
        go_at_call 21
        with_reducible refine HCC.out.mono ?_
        rintro _ w6 ⟨hB, d0, d1, d2, d3, d4, d5, d6, d7, rfl⟩
        have HB6 := Lib.hid (HB5.out.trans (hB.mono HB5.out.size))
        clear hB hsx2
        go_wp2_with (fail)
        go_ret
        exact ⟨rfl, HB6.out⟩
      · have hcx := (lex_any (w4.alloc (.cells #[.int .u8 b0, .string b1, .slice b2 b3 b4, .slice b5 b6 b7] 25)) b HB16.out (HL.out.below HB4.out).signs us q2 e2 HZ.out).mono (R' := fun E W' => E = .returned (.tuple #[.slice none 0 0, .int .i64 q2, .int .i64 e2]) ∧ Below (w4.alloc (.cells #[.int .u8 b0, .string b1, .slice b2 b3 b4, .slice b5 b6 b7] 25)).heap.size (w4.alloc (.cells #[.int .u8 b0, .string b1, .slice b2 b3 b4, .slice b5 b6 b7] 25)) W') fun E W' ⟨hB, h⟩ => by
          rcases h with ⟨h0, _⟩ | ⟨_, h⟩
          · exact absurd h0 he2
          · exact ⟨h, hB⟩
        have HCX := Lib.hid hcx
        have qe2 : (e2 != 0) = true := by simp [he2]
        clear hcx he2
        go_wp2_with (fail)
        go_at_call 22
        with_reducible refine HCX.out.mono ?_
        rintro _ w5 ⟨rfl, hB⟩
        have HB5 := Lib.hid (HB4.out.trans (hB.mono HB4.out.size))
        clear hB
        go_wp2_with (fail)
        go_ret
        exact ⟨rfl, HB5.out⟩
set_option maxRecDepth 100000 in
set_option maxHeartbeats 8000000 in
theorem first_51_51 (w : World) (s b : ByteArray) (hL : LaidAll w) (hl : s.size ≤ 1500) (hl2 : b.size ≤ 1000) {ts : List Tok} {q K : Nat} {t : Tok} (hX : LexL 0 (bys s) ts q 0) (ht : ts[K]? = some t) (h1 : ∀ W, LaidAll W → Calls Tryd.prog 21 #[.string s] W (fun E W' => Below W.heap.size W W' ∧ ∃ (o8 : Int) (nm : ByteArray) (aa : Option Addr) (an ac : Nat) (sa : Option Addr) (sn sc : Nat), E = .returned (.tuple #[.agg #[.int .u8 o8, .string nm, .slice aa an ac, .slice sa sn sc], .int .i64 (t.p : Int), .int .i64 51])))
    (h2 : ∀ W, LaidAll W → Calls Tryd.prog 21 #[.string (s.extract 0 t.p)] W (fun E W' => Below W.heap.size W W' ∧ ∃ (o8 : Int) (nm : ByteArray) (aa : Option Addr) (an ac : Nat) (sa : Option Addr) (sn sc : Nat), E = .returned (.tuple #[.agg #[.int .u8 o8, .string nm, .slice aa an ac, .slice sa sn sc], .int .i64 (t.p : Int), .int .i64 51])))
    (h3 : t.k ≠ 5 → ∀ us q2, LexL 0 (bys b) us q2 0 → ∀ W, LaidAll W → Calls Tryd.prog 21 #[.string (s.extract 0 (t.p + t.t.size) ++ ⟨#[32]⟩ ++ b)] W (fun E W' => Below W.heap.size W W' ∧ ∃ (o8 : Int) (nm : ByteArray) (aa : Option Addr) (an ac : Nat) (sa : Option Addr) (sn sc : Nat), E = .returned (.tuple #[.agg #[.int .u8 o8, .string nm, .slice aa an ac, .slice sa sn sc], .int .i64 (t.p : Int), .int .i64 51]))) : Calls Tryd.prog 5 #[.string s, .string b] w (RetOk w) := by
  have HA := Lib.hid (awake_any w hL.signs hL.levels hL.rows)
  unfold RetA1 at HA
  have HL := Lib.hid hL
  obtain ⟨n, hn⟩ : ∃ n, n = s.size := ⟨_, rfl⟩
  obtain ⟨n2, hn2⟩ : ∃ n2, n2 = b.size := ⟨_, rfl⟩
  rw [← hn] at hl
  rw [← hn2] at hl2
  have hd : ¬ (1500 : Int) < (n : Int) := by omega
  have hd2 : ¬ (1000 : Int) < (n2 : Int) := by omega
  have hm1 : s.size = n := hn.symm
  have hm2 : b.size = n2 := hn2.symm
  clear hn hn2
  have hT := tsok_of_lex (l := bys s) (by show s.size ≤ 16384; omega) hX
  have hx := fun (W : World) (hB : Below w.heap.size w W) => lexT_any W s (by omega) (hL.below hB).signs ts q hX
  have HX := Lib.hid hx
  have HC := Lib.hid h1
  have HC2 := Lib.hid h2
  have HC3 := Lib.hid h3
  have hgr := lex_grow hX
  have HGR := Lib.hid hgr
  have hpl := (lex_places hX).2 t (List.mem_of_getElem? ht)
  have hkt := (List.getElem?_eq_some_iff.1 ht).1
  obtain ⟨nl, hnl⟩ : ∃ nl, nl = ts.length := ⟨_, rfl⟩
  have hnl2 : nl ≤ 20000 := by have := hT.en.len; have := hT.le; omega
  simp only [← hnl] at HX
  have HNL := Lib.hid hnl
  have HTT := Lib.hid ht
  obtain ⟨tk, tt, tp⟩ := t
  simp only at HC HC2 HC3 hpl ⊢
  have hps : tp + tt.size ≤ n := by have : (bys s).length = n := hm1; omega
  have hKl : K < nl := by omega
  have HLB : Hid (∃ us q2 e2, LexL 0 (bys b) us q2 e2) := Lib.hid (lex_total _ (bys b) (Nat.le_refl _) 0)
  have HB16 : Hid (b.size ≤ 16384) := Lib.hid (by omega)
  clear hL hl hl2 h1 h2 h3 hx hX hT hgr hnl ht hpl hkt
  go_enter Tryd.func5, Tryd.ntmps5
  go_wp2_with (fail)
  go_at_call 9
  with_reducible refine HA.out.mono ?_
  rintro _ w1 ⟨rfl, hB⟩
  have HB := Lib.hid hB
  clear hB
  go_wp2_with (fail)
  go_at_call 21
  with_reducible refine (HC.out _ (HL.out.below HB.out)).mono ?_
  rintro _ w2 ⟨hB, a0, a1, a2, a3, a4, a5, a6, a7, rfl⟩
  have HB := Lib.hid ((HB.out.trans (hB.mono HB.out.size)).alloc (HB.out.trans (hB.mono HB.out.size)).size (.cells #[.int .u8 a0, .string a1, .slice a2 a3 a4, .slice a5 a6 a7] 25))
  clear hB
  go_wp2_with (fail)
  go_at_call 22
  with_reducible refine (HX.out _ HB.out).mono ?_
  rintro _ w3 ⟨hB, g, c, rfl, hg1, hg2, hTK⟩
  have HB := Lib.hid (HB.out.trans (hB.mono HB.out.size))
  have HTK := Lib.hid hTK
  have HG := Lib.hid hg2
  clear hB hg1 hg2 hTK
  go_wp2_with (fail)
  go_loopw [11] (fun i wr => ∃ j : Nat, j ≤ K ∧ i = .int .i64 j ∧ Below w3.heap.size w3 wr) (fun i _ => nl - (intOf i).toNat)
  case atStart => exact ⟨0, by omega, rfl, Below.refl _ _⟩
  case round =>
    obtain ⟨j, hj, rfl, hB⟩ := hrel
    have HBR := Lib.hid hB
    have hjn : (j : Int) < (nl : Int) := by omega
    have j0 : (0 : Int) ≤ (j : Int) := by omega
    by_cases hjK : j < K
    · obtain ⟨u, htj⟩ : ∃ u, ts[j]? = some u := ⟨_, List.getElem?_eq_getElem (by rw [← HNL.out]; omega)⟩
      have hc2 := (hB.cell (p := ⟨g, j * 3 + 2, none⟩) HG.out).trans (HTK.out.c2 j u htj)
      have hlt := HGR.out j K u _ hjK htj HTT.out
      simp only at hlt
      have hne : ((u.p : Int) != (tp : Int)) = true := by simp; omega
      obtain ⟨up, hup⟩ : ∃ up, up = u.p := ⟨_, rfl⟩
      rw [← hup] at hc2 hne
      clear hup hlt htj hB
      go_wp2_with (fail)
      go_roundw
      case rel => exact ⟨j + 1, by omega, by go_num, HBR.out⟩
      case measure => simp [intOf]; omega
    · obtain rfl : j = K := by omega
      have hc0 := (hB.cell (p := ⟨g, j * 3, none⟩) HG.out).trans (HTK.out.c0 j _ HTT.out)
      have hc1 := (hB.cell (p := ⟨g, j * 3 + 1, none⟩) HG.out).trans (HTK.out.c1 j _ HTT.out)
      have hc2 := (hB.cell (p := ⟨g, j * 3 + 2, none⟩) HG.out).trans (HTK.out.c2 j _ HTT.out)
      simp only at hc0 hc1 hc2
      clear hB
      go_wp2_with (fail)
      go_at_call 21
      have hb4 := HB.out.trans (HBR.out.mono HB.out.size)
      with_reducible refine (HC2.out _ (HL.out.below hb4)).mono ?_
      rintro _ w4 ⟨hB, b0, b1, b2, b3, b4, b5, b6, b7, rfl⟩
      have hgw : g < wr.heap.size := Nat.lt_of_lt_of_le HG.out HBR.out.size
      have hd0 := ((bl_al9 (.cells #[.int .u8 b0, .string b1, .slice b2 b3 b4, .slice b5 b6 b7] 25)).cell (p := ⟨g, j * 3, none⟩) (Nat.lt_of_lt_of_le hgw hB.size)).trans ((hB.cell (p := ⟨g, j * 3, none⟩) hgw).trans hc0)
      have hd1 := ((bl_al9 (.cells #[.int .u8 b0, .string b1, .slice b2 b3 b4, .slice b5 b6 b7] 25)).cell (p := ⟨g, j * 3 + 1, none⟩) (Nat.lt_of_lt_of_le hgw hB.size)).trans ((hB.cell (p := ⟨g, j * 3 + 1, none⟩) hgw).trans hc1)
      have HG4 := Lib.hid (show g < (w4.alloc (.cells #[.int .u8 b0, .string b1, .slice b2 b3 b4, .slice b5 b6 b7] 25)).heap.size by simp only [World.size_alloc]; have := hB.size; omega)
      have HB4 := Lib.hid ((hb4.trans (hB.mono hb4.size)).alloc (hb4.trans (hB.mono hb4.size)).size (.cells #[.int .u8 b0, .string b1, .slice b2 b3 b4, .slice b5 b6 b7] 25))
      have hltp : ¬ (tp : Int) < (tp : Int) := by omega
      clear hb4 hB hc0 hc1 hc2 hgw
      by_cases h5 : tk = 5
      · subst h5
        go_wp2_with (fail)
        go_ret
        exact ⟨rfl, HB4.out⟩
      have q5 : (tk == 5) = false := by simp [h5]
      have H5 := Lib.hid h5
      clear h5
      obtain ⟨us, q2, e2, hZ⟩ := HLB.out
      have HZ := Lib.hid hZ
      clear hZ
      by_cases he2 : e2 = 0
      · have hcx := lexT_any (w4.alloc (.cells #[.int .u8 b0, .string b1, .slice b2 b3 b4, .slice b5 b6 b7] 25)) b HB16.out (HL.out.below HB4.out).signs us q2 (by have := HZ.out; rw [he2] at this; exact this)
        have HCX := Lib.hid hcx
        have HE2 := Lib.hid he2
        obtain ⟨ul, hul⟩ : ∃ ul, ul = us.length := ⟨_, rfl⟩
        rw [← hul] at HCX
        clear hcx he2 hul
        go_wp2_with (fail)
        go_at_call 22
        with_reducible refine HCX.out.mono ?_
        rintro _ w5 ⟨hB, g2, c2, rfl, _, _, _⟩
        have hd1' := (hB.cell (p := ⟨g, j * 3 + 1, none⟩) HG4.out).trans hd1
        have HB5 := Lib.hid (HB4.out.trans (hB.mono HB4.out.size))
        clear hB hd0 hd1
        have hw1 : wrap64 ((tp : Int) + (tt.size : Int)) = ((tp + tt.size : Nat) : Int) := by rw [IntWalk.wrap64_in _ (by omega)]; omega
        obtain ⟨tz, htz⟩ : ∃ tz, tz = tt.size := ⟨_, rfl⟩
        rw [← htz] at hw1 hps
        have htz2 : tt.size = tz := htz.symm
        obtain ⟨pz, hpz⟩ : ∃ pz, pz = tp + tz := ⟨_, rfl⟩
        rw [← hpz] at hw1 hps
        have HPZ : Hid (tp + tt.size = pz) := Lib.hid (by rw [hpz, htz])
        clear htz hpz
        obtain ⟨sx, hsx⟩ : ∃ sx, sx = s.extract 0 pz := ⟨_, rfl⟩
        have hsx2 : s.extract 0 pz = sx := hsx.symm
        have hsz : sx.size ≤ 1500 := by clear hw1; rw [hsx]; simp; omega
        have hc3 := HC3.out H5.out us q2 (by have := HZ.out; rw [HE2.out] at this; exact this) w5 (HL.out.below HB5.out)
        rw [HPZ.out, hsx2] at hc3
        have HCC := Lib.hid hc3
        go_upto_region 21 with (fail)
        have HSZ := Lib.hid hsz
        clear hc3 hsx hsz HZ HCX HX HC HC2 HC3 HLB HGR hd hd2 hm2 hnl2 hjn hj hjK hltp q5 H5 HE2 HPZ
        go_wp2_with (fail)
        all_goals try (exfalso; clear hw1; have h1 := HSZ.out; have h2 := HB16.out; omega)
        go_at_call 21
        with_reducible refine HCC.out.mono ?_
        rintro _ w6 ⟨hB, d0, d1, d2, d3, d4, d5, d6, d7, rfl⟩
        have HB6 := Lib.hid (HB5.out.trans (hB.mono HB5.out.size))
        clear hB hsx2
        go_wp2_with (fail)
        go_ret
        exact ⟨rfl, HB6.out⟩
      · have hcx := (lex_any (w4.alloc (.cells #[.int .u8 b0, .string b1, .slice b2 b3 b4, .slice b5 b6 b7] 25)) b HB16.out (HL.out.below HB4.out).signs us q2 e2 HZ.out).mono (R' := fun E W' => E = .returned (.tuple #[.slice none 0 0, .int .i64 q2, .int .i64 e2]) ∧ Below (w4.alloc (.cells #[.int .u8 b0, .string b1, .slice b2 b3 b4, .slice b5 b6 b7] 25)).heap.size (w4.alloc (.cells #[.int .u8 b0, .string b1, .slice b2 b3 b4, .slice b5 b6 b7] 25)) W') fun E W' ⟨hB, h⟩ => by
          rcases h with ⟨h0, _⟩ | ⟨_, h⟩
          · exact absurd h0 he2
          · exact ⟨h, hB⟩
        have HCX := Lib.hid hcx
        have qe2 : (e2 != 0) = true := by simp [he2]
        clear hcx he2
        go_wp2_with (fail)
        go_at_call 22
        with_reducible refine HCX.out.mono ?_
        rintro _ w5 ⟨rfl, hB⟩
        have HB5 := Lib.hid (HB4.out.trans (hB.mono HB4.out.size))
        clear hB
        go_wp2_with (fail)
        go_ret
        exact ⟨rfl, HB5.out⟩
end Go.Proofs.YtdobflpbkfkmgaaDoor
