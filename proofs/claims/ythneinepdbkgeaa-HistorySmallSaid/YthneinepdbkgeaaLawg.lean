/- tells (28). lawg.py prints this text (template lawg.tpl). -/
import Derived.Test.YthneinepdbkgeaaLawe
namespace Go.Proofs.Ythneinepdbkgeaa
open Go.RowKit Go.HK
set_option linter.unusedVariables false
set_option linter.unusedSimpArgs false
set_option linter.unusedSectionVars false
set_option maxRecDepth 100000 in
set_option maxHeartbeats 4000000 in
theorem tells_long (w : World) (begin : ByteArray) (hb : 16384 < begin.size) (hm : begin.size ≤ maxLen) (ad : Option Addr) (n c : Nat) : Calls Try.prog 28 #[.string begin, .slice ad n c] w (RetTr w) := by
  have h1 := fun W => new_no W begin hm hb
  have h2 := fun W => rnew_no W begin hb hm
  unfold RetNewN at h2
  have H1 := Lib.hid h1
  have H2 := Lib.hid h2
  clear h1 h2
  go_enter Try.func28, Try.ntmps28
  go_wp2_with (first
    | (go_at_call 35; (with_reducible refine (H1.out w).mono ?_); rintro e w2 ⟨rfl, rfl⟩)
    | (go_at_call 46; (with_reducible refine (H2.out w).mono ?_); rintro e w3 ⟨rfl, hB3⟩; have HB3 := Lib.hid hB3; clear hB3))
  go_ret
  exact ⟨rfl, HB3.out.alloc HB3.out.size _⟩
set_option maxRecDepth 100000 in
set_option maxHeartbeats 16000000 in
theorem tells_walk (w : World) (begin : ByteArray) (hb : begin.size ≤ 16384) (ad : Option Addr) (n c : Nat) (l : Nat → DoE) (hd : DosV w ad n l) (hn : n ≤ 40) : Calls Try.prog 28 #[.string begin, .slice ad n c] w (RetTr w) := by
  have h1 := new_yes w begin hb
  have h2 := fun W => rnew_yes W begin hb
  have H1 := Lib.hid h1
  have H2 := Lib.hid h2
  have HD := Lib.hid hd
  clear h1 h2 hd
  go_enter Try.func28, Try.ntmps28
  go_upto_region 8 with (first
    | (go_at_call 35; (with_reducible refine H1.out.mono ?_); rintro e w2 ⟨p, rfl, t, F, rfl, hH, hB2, hF, _⟩; have HH := Lib.hid hH; have HB2 := Lib.hid hB2; have HF := Lib.hid hF; clear hH hB2 hF)
    | (go_at_call 46; (with_reducible refine (H2.out w2).mono ?_); rintro e w3 ⟨g, g2, rfl, hE3, hR3, hg, hg2, hB3⟩; have HE3 := Lib.hid hE3; have HR3 := Lib.hid hR3; have HG := Lib.hid hg; have HG2 := Lib.hid hg2; have HB3 := Lib.hid hB3; clear hE3 hR3 hg hg2 hB3))
  obtain ⟨R, hR⟩ : ∃ R, R = w3.heap.size := ⟨_, rfl⟩
  obtain ⟨w4, hw4⟩ : ∃ w4, w4 = w3.alloc (.cells #[.slice (some ⟨g, 0, none⟩) 1 1, .int .i64 0, .slice (some ⟨g2, 0, none⟩) 1 1] 63) := ⟨_, rfl⟩
  rw [← hw4, ← hR]
  have hX : TlX w R 0 (.pointer (some ⟨t, 0, none⟩)) w4 := by
    have hB23 : Below w2.heap.size w2 w4 := by rw [hw4]; exact HB3.out.alloc HB3.out.size _
    have hB34 : Below w3.heap.size w3 w4 := by rw [hw4]; exact (Below.refl _ w3).alloc (Nat.le_refl _) _
    have hlt := HH.out.lt
    have hs2 := HB2.out.size
    have hs3 := HB3.out.size
    have hg := HG.out
    have hg2 := HG2.out
    have hgl := HE3.out.lt
    have hg2l := HR3.out.lt
    refine ⟨t, F, rootN begin, 0, g, 1, g2, 1, [0], rfl, ⟨HB2.out.trans (hB23.mono hs2), HH.out.stay (Frm.of_below hB23 (fun _ => False)) (fun _ _ => id), ?_, HR3.out.below hB34 (Nat.le_refl _), ?_, FavOk.root begin, ?_, HF.out, fun h => by have := hlt _ h; omega, fun h => by have := hlt _ h; omega, fun h => by have := hlt _ h; omega, by omega, by omega, by omega, by simp⟩, by simp [rootN], by simp⟩
    · exact HE3.out.below hB34 (Nat.le_refl _)
    · rw [hw4, hR]; exact HK.blk_new _ _
    · intro j x hx
      match j with
      | 0 =>
        obtain rfl : (⟨-1, 0, ByteArray.empty, begin⟩ : Ent) = x := by simpa [ents, rootN, Go.HK.HN.ent] using hx
        exact ⟨hb, by show ByteArray.empty.size ≤ 100; decide⟩
      | j + 1 => simp [ents, rootN] at hx
  have HX := Lib.hid hX
  clear hX hw4 hR HE3 HR3 HG HG2 HB3 HH HB2 HF
  go_loopw [5, 9] (fun p i wr => ∃ k : Nat, k ≤ n ∧ i = .int .i64 k ∧ TlX w R k p wr) (fun _ i _ => n - (intOf i).toNat)
  case atStart => exact ⟨0, Nat.zero_le _, rfl, HX.out⟩
  case round =>
    obtain ⟨k, hk, rfl, hX⟩ := hrel
    obtain ⟨tt, FF, nodes, now, ge, ce, gw, gc, went, rfl, hT, hl1, hl2⟩ := hX
    by_cases hkn : (k : Int) < (n : Int)
    · have b0 : (0 : Int) ≤ (k : Int) := by omega
      obtain ⟨a, rfl, d0, d1, d2, d3, d4, d5, d6, d7⟩ := HD.out.below hT.below k (by omega)
      obtain ⟨x, hx⟩ : ∃ x, x = l k := ⟨_, rfl⟩
      rw [← hx] at d0 d1 d2 d3 d4 d5 d6 d7
      obtain ⟨K, N, M, S, NT⟩ := x
      simp only at d0 d1 d2 d3 d4 d5 d6 d7
      have HT := Lib.hid hT
      have HL1 := Lib.hid hl1
      have HL2 := Lib.hid hl2
      have HD6 := Lib.hid d6
      have HD7 := Lib.hid d7
      clear hT hx hl1 hl2 d6 d7
      go_upto_block 2 with (fail)
      obtain ⟨X, hX⟩ : ∃ X, X = wr.heap.size := ⟨_, rfl⟩
      obtain ⟨w5, hw5⟩ : ∃ w5, w5 = wr.alloc (.cells #[.int .u8 (K : Int), .int .i64 N, .int .i64 M, .string S, .string NT] 74) := ⟨_, rfl⟩
      rw [← hw5, ← hX]
      have hY := show w5.heap[X]? = some (.cells #[.int .u8 (K : Int), .int .i64 N, .int .i64 M, .string S, .string NT] 74 (0, 0)) by rw [hw5, hX]; exact HK.blk_new _ _
      have hB5 : Below wr.heap.size wr w5 := by rw [hw5]; exact (Below.refl _ wr).alloc (Nat.le_refl _) _
      have HT5 := Lib.hid (HT.out.up hB5)
      have HXF : Hid (X ∉ FF) := Lib.hid (fun h => by have := HT.out.hist.lt _ h; omega)
      have HXR : Hid (R < X) := Lib.hid (by rw [hX]; exact HK.blk_lt HT.out.box)
      have HY := Lib.hid hY
      clear hw5 hX d0 d1 d2 d3 d4 HT hY hB5
      go_cut [5, 11, 12, 13, 14, 15, 16, 17, 18, 19, 20, 21, 22, 23, 24, 25, 26, 27, 28, 29, 30, 31, 32, 33, 34, 35, 36, 37] from 65 to 242 (fun p v11 v12 v13 v14 v15 v16 v17 v18 v19 v20 v21 v22 v23 v24 v25 v26 v27 v28 v29 v30 v31 v32 v33 v34 v35 v36 v37 wx => TlX w R (k + 1) p wx)
      case first =>
        have hkk : K % 7 = 0 ∨ K % 7 = 1 ∨ K % 7 = 2 ∨ K % 7 = 3 ∨ K % 7 = 4 ∨ K % 7 = 5 ∨ K % 7 = 6 := by omega
        rcases hkk with hkk | hkk | hkk | hkk | hkk | hkk | hkk
        · as_aux_lemma =>
          have e7 : (K : Int) % 7 = 0 := by omega
          clear hkk
          obtain ⟨a9, b9, nodes', now', went', C⟩ := step_do9 HT5.out.hist HT5.out.fav HT5.out.short HT5.out.wpos (by have := HL2.out; omega) (by have := HL1.out; omega) S NT N HD6.out HD7.out
          have hcr := fun W (he : EntsAt W ge (ents nodes)) (hr : RowAt W gw went.length went) => C.ref W ge ce gw gc he hr
          have HC := Lib.hid C
          have HCP := Lib.hid C.prog
          have HCR := Lib.hid hcr
          have y0 := HK.blk_cell HY.out 0
          have y1 := HK.blk_cell HY.out 1
          have y2 := HK.blk_cell HY.out 2
          have y3 := HK.blk_cell HY.out 3
          have y4 := HK.blk_cell HY.out 4
          clear hcr C
          go_upto_region 15 with (go_at_call 17; (with_reducible refine HCP.out.mono ?_); rintro e w6 ⟨rfl, hP⟩; have HP := Lib.hid hP; obtain ⟨_, _, hfr, _⟩ := hP; have hb6 := hfr.heap HY.out HXF.out; have hr6 := hfr.heap HT5.out.box HT5.out.rF; have y0 := HK.blk_cell hb6 0; have y1 := HK.blk_cell hb6 1; have y2 := HK.blk_cell hb6 2; have y3 := HK.blk_cell hb6 3; have y4 := HK.blk_cell hb6 4; have r0 := HK.blk_cell hr6 0; have r1 := HK.blk_cell hr6 1; have r2 := HK.blk_cell hr6 2; have HR6 := Lib.hid hr6; have HE6 := Lib.hid (ents_frm HT5.out.ents hfr HT5.out.geF); have HW6 := Lib.hid (row_frm HT5.out.row hfr HT5.out.gwF); clear hfr hb6 hr6)
          go_wp2_with (fail)
          (with_reducible refine (HCR.out w6 HE6.out HW6.out).mono ?_)
          rintro e w7 ⟨ge', ce', gw', gc', rfl, hE7, hW7, q1, q2, hB7⟩
          have hr7 := blk_up9 hB7 HR6.out
          have hrl := HK.blk_lt hr7
          have r0 := HK.blk_cell hr7 0
          have r1 := HK.blk_cell hr7 1
          have r2 := HK.blk_cell hr7 2
          have rf := fun i => HK.blk_frozen hr7 i
          have f0 : R ≠ w7.heap.size := by omega
          have f1 : w7.heap.size ≠ R := by omega
          have HE7 := Lib.hid hE7
          have HW7 := Lib.hid hW7
          have HQ1 := Lib.hid q1
          have HQ2 := Lib.hid q2
          have HB7 := Lib.hid hB7
          clear hE7 hW7 q1 q2 hB7 hr7 y0 y1 y2 y3 y4
          go_wp2_with (fail)
          go_meet
          case rel =>
            obtain ⟨F', hT'⟩ := HT5.out.next HP.out HB7.out HE7.out HW7.out HQ1.out HQ2.out HC.out.fav HC.out.short HC.out.wpos (ce' := ce') (gc' := gc')
            refine ⟨_, F', nodes', now', ge', ce', gw', gc', went', rfl, hT'.up ?_, by have := HC.out.len; have := HL1.out; omega, by have := HC.out.wlen; have := HL2.out; omega⟩
            exact (Below.refl _ _).alloc (Nat.le_refl _) _
        · as_aux_lemma =>
          have e7 : (K : Int) % 7 = 1 := by omega
          clear hkk
          obtain ⟨a9, b9, nodes', now', went', C⟩ := step_do9 HT5.out.hist HT5.out.fav HT5.out.short HT5.out.wpos (by have := HL2.out; omega) (by have := HL1.out; omega) S NT N HD6.out HD7.out
          have hcr := fun W (he : EntsAt W ge (ents nodes)) (hr : RowAt W gw went.length went) => C.ref W ge ce gw gc he hr
          have HC := Lib.hid C
          have HCP := Lib.hid C.prog
          have HCR := Lib.hid hcr
          have y0 := HK.blk_cell HY.out 0
          have y1 := HK.blk_cell HY.out 1
          have y2 := HK.blk_cell HY.out 2
          have y3 := HK.blk_cell HY.out 3
          have y4 := HK.blk_cell HY.out 4
          clear hcr C
          go_upto_region 15 with (go_at_call 17; (with_reducible refine HCP.out.mono ?_); rintro e w6 ⟨rfl, hP⟩; have HP := Lib.hid hP; obtain ⟨_, _, hfr, _⟩ := hP; have hb6 := hfr.heap HY.out HXF.out; have hr6 := hfr.heap HT5.out.box HT5.out.rF; have y0 := HK.blk_cell hb6 0; have y1 := HK.blk_cell hb6 1; have y2 := HK.blk_cell hb6 2; have y3 := HK.blk_cell hb6 3; have y4 := HK.blk_cell hb6 4; have r0 := HK.blk_cell hr6 0; have r1 := HK.blk_cell hr6 1; have r2 := HK.blk_cell hr6 2; have HR6 := Lib.hid hr6; have HE6 := Lib.hid (ents_frm HT5.out.ents hfr HT5.out.geF); have HW6 := Lib.hid (row_frm HT5.out.row hfr HT5.out.gwF); clear hfr hb6 hr6)
          go_wp2_with (fail)
          (with_reducible refine (HCR.out w6 HE6.out HW6.out).mono ?_)
          rintro e w7 ⟨ge', ce', gw', gc', rfl, hE7, hW7, q1, q2, hB7⟩
          have hr7 := blk_up9 hB7 HR6.out
          have hrl := HK.blk_lt hr7
          have r0 := HK.blk_cell hr7 0
          have r1 := HK.blk_cell hr7 1
          have r2 := HK.blk_cell hr7 2
          have rf := fun i => HK.blk_frozen hr7 i
          have f0 : R ≠ w7.heap.size := by omega
          have f1 : w7.heap.size ≠ R := by omega
          have HE7 := Lib.hid hE7
          have HW7 := Lib.hid hW7
          have HQ1 := Lib.hid q1
          have HQ2 := Lib.hid q2
          have HB7 := Lib.hid hB7
          clear hE7 hW7 q1 q2 hB7 hr7 y0 y1 y2 y3 y4
          go_wp2_with (fail)
          go_meet
          case rel =>
            obtain ⟨F', hT'⟩ := HT5.out.next HP.out HB7.out HE7.out HW7.out HQ1.out HQ2.out HC.out.fav HC.out.short HC.out.wpos (ce' := ce') (gc' := gc')
            refine ⟨_, F', nodes', now', ge', ce', gw', gc', went', rfl, hT'.up ?_, by have := HC.out.len; have := HL1.out; omega, by have := HC.out.wlen; have := HL2.out; omega⟩
            exact (Below.refl _ _).alloc (Nat.le_refl _) _
        · as_aux_lemma =>
          have e7 : (K : Int) % 7 = 2 := by omega
          clear hkk
          obtain ⟨s9, b9, nodes', now', went', C⟩ := step_undo9 HT5.out.hist HT5.out.fav HT5.out.short HT5.out.wpos
          have hcr := fun W (he : EntsAt W ge (ents nodes)) (hr : RowAt W gw went.length went) => C.ref W ge ce gw gc he hr
          have HC := Lib.hid C
          have HCP := Lib.hid C.prog
          have HCR := Lib.hid hcr
          have y0 := HK.blk_cell HY.out 0
          have y1 := HK.blk_cell HY.out 1
          have y2 := HK.blk_cell HY.out 2
          have y3 := HK.blk_cell HY.out 3
          have y4 := HK.blk_cell HY.out 4
          clear hcr C
          go_upto_region 21 with (go_at_call 15; (with_reducible refine HCP.out.mono ?_); rintro e w6 ⟨rfl, hP⟩; have HP := Lib.hid hP; obtain ⟨_, _, hfr, _⟩ := hP; have hb6 := hfr.heap HY.out HXF.out; have hr6 := hfr.heap HT5.out.box HT5.out.rF; have y0 := HK.blk_cell hb6 0; have y1 := HK.blk_cell hb6 1; have y2 := HK.blk_cell hb6 2; have y3 := HK.blk_cell hb6 3; have y4 := HK.blk_cell hb6 4; have r0 := HK.blk_cell hr6 0; have r1 := HK.blk_cell hr6 1; have r2 := HK.blk_cell hr6 2; have HR6 := Lib.hid hr6; have HE6 := Lib.hid (ents_frm HT5.out.ents hfr HT5.out.geF); have HW6 := Lib.hid (row_frm HT5.out.row hfr HT5.out.gwF); clear hfr hb6 hr6)
          go_wp2_with (fail)
          (with_reducible refine (HCR.out w6 HE6.out HW6.out).mono ?_)
          rintro e w7 ⟨ge', ce', gw', gc', rfl, hE7, hW7, q1, q2, hB7⟩
          have hr7 := blk_up9 hB7 HR6.out
          have hrl := HK.blk_lt hr7
          have r0 := HK.blk_cell hr7 0
          have r1 := HK.blk_cell hr7 1
          have r2 := HK.blk_cell hr7 2
          have rf := fun i => HK.blk_frozen hr7 i
          have f0 : R ≠ w7.heap.size := by omega
          have f1 : w7.heap.size ≠ R := by omega
          have HE7 := Lib.hid hE7
          have HW7 := Lib.hid hW7
          have HQ1 := Lib.hid q1
          have HQ2 := Lib.hid q2
          have HB7 := Lib.hid hB7
          clear hE7 hW7 q1 q2 hB7 hr7 y0 y1 y2 y3 y4
          go_wp2_with (fail)
          go_meet
          case rel =>
            obtain ⟨F', hT'⟩ := HT5.out.next HP.out HB7.out HE7.out HW7.out HQ1.out HQ2.out HC.out.fav HC.out.short HC.out.wpos (ce' := ce') (gc' := gc')
            refine ⟨_, F', nodes', now', ge', ce', gw', gc', went', rfl, hT'.up ?_, by have := HC.out.len; have := HL1.out; omega, by have := HC.out.wlen; have := HL2.out; omega⟩
            exact (Below.refl _ _).alloc (Nat.le_refl _) _
        · as_aux_lemma =>
          have e7 : (K : Int) % 7 = 3 := by omega
          clear hkk
          obtain ⟨s9, b9, nodes', now', went', C⟩ := step_redo9 HT5.out.hist HT5.out.fav HT5.out.short HT5.out.wpos (by have := HL2.out; omega)
          have hcr := fun W (he : EntsAt W ge (ents nodes)) (hr : RowAt W gw went.length went) => C.ref W ge ce gw gc he hr
          have HC := Lib.hid C
          have HCP := Lib.hid C.prog
          have HCR := Lib.hid hcr
          have y0 := HK.blk_cell HY.out 0
          have y1 := HK.blk_cell HY.out 1
          have y2 := HK.blk_cell HY.out 2
          have y3 := HK.blk_cell HY.out 3
          have y4 := HK.blk_cell HY.out 4
          clear hcr C
          go_upto_region 27 with (go_at_call 16; (with_reducible refine HCP.out.mono ?_); rintro e w6 ⟨rfl, hP⟩; have HP := Lib.hid hP; obtain ⟨_, _, hfr, _⟩ := hP; have hb6 := hfr.heap HY.out HXF.out; have hr6 := hfr.heap HT5.out.box HT5.out.rF; have y0 := HK.blk_cell hb6 0; have y1 := HK.blk_cell hb6 1; have y2 := HK.blk_cell hb6 2; have y3 := HK.blk_cell hb6 3; have y4 := HK.blk_cell hb6 4; have r0 := HK.blk_cell hr6 0; have r1 := HK.blk_cell hr6 1; have r2 := HK.blk_cell hr6 2; have HR6 := Lib.hid hr6; have HE6 := Lib.hid (ents_frm HT5.out.ents hfr HT5.out.geF); have HW6 := Lib.hid (row_frm HT5.out.row hfr HT5.out.gwF); clear hfr hb6 hr6)
          go_wp2_with (fail)
          (with_reducible refine (HCR.out w6 HE6.out HW6.out).mono ?_)
          rintro e w7 ⟨ge', ce', gw', gc', rfl, hE7, hW7, q1, q2, hB7⟩
          have hr7 := blk_up9 hB7 HR6.out
          have hrl := HK.blk_lt hr7
          have r0 := HK.blk_cell hr7 0
          have r1 := HK.blk_cell hr7 1
          have r2 := HK.blk_cell hr7 2
          have rf := fun i => HK.blk_frozen hr7 i
          have f0 : R ≠ w7.heap.size := by omega
          have f1 : w7.heap.size ≠ R := by omega
          have HE7 := Lib.hid hE7
          have HW7 := Lib.hid hW7
          have HQ1 := Lib.hid q1
          have HQ2 := Lib.hid q2
          have HB7 := Lib.hid hB7
          clear hE7 hW7 q1 q2 hB7 hr7 y0 y1 y2 y3 y4
          go_wp2_with (fail)
          go_meet
          case rel =>
            obtain ⟨F', hT'⟩ := HT5.out.next HP.out HB7.out HE7.out HW7.out HQ1.out HQ2.out HC.out.fav HC.out.short HC.out.wpos (ce' := ce') (gc' := gc')
            refine ⟨_, F', nodes', now', ge', ce', gw', gc', went', rfl, hT'.up ?_, by have := HC.out.len; have := HL1.out; omega, by have := HC.out.wlen; have := HL2.out; omega⟩
            exact (Below.refl _ _).alloc (Nat.le_refl _) _
        · as_aux_lemma =>
          have e7 : (K : Int) % 7 = 4 := by omega
          clear hkk
          obtain ⟨s9, b9, nodes', now', went', C⟩ := step_go9 HT5.out.hist HT5.out.fav HT5.out.short HT5.out.wpos (by have := HL2.out; omega) N
          have hcr := fun W (he : EntsAt W ge (ents nodes)) (hr : RowAt W gw went.length went) => C.ref W ge ce gw gc he hr
          have HC := Lib.hid C
          have HCP := Lib.hid C.prog
          have HCR := Lib.hid hcr
          have y0 := HK.blk_cell HY.out 0
          have y1 := HK.blk_cell HY.out 1
          have y2 := HK.blk_cell HY.out 2
          have y3 := HK.blk_cell HY.out 3
          have y4 := HK.blk_cell HY.out 4
          clear hcr C
          go_upto_region 33 with (go_at_call 18; (with_reducible refine HCP.out.mono ?_); rintro e w6 ⟨rfl, hP⟩; have HP := Lib.hid hP; obtain ⟨_, _, hfr, _⟩ := hP; have hb6 := hfr.heap HY.out HXF.out; have hr6 := hfr.heap HT5.out.box HT5.out.rF; have y0 := HK.blk_cell hb6 0; have y1 := HK.blk_cell hb6 1; have y2 := HK.blk_cell hb6 2; have y3 := HK.blk_cell hb6 3; have y4 := HK.blk_cell hb6 4; have r0 := HK.blk_cell hr6 0; have r1 := HK.blk_cell hr6 1; have r2 := HK.blk_cell hr6 2; have HR6 := Lib.hid hr6; have HE6 := Lib.hid (ents_frm HT5.out.ents hfr HT5.out.geF); have HW6 := Lib.hid (row_frm HT5.out.row hfr HT5.out.gwF); clear hfr hb6 hr6)
          go_wp2_with (fail)
          (with_reducible refine (HCR.out w6 HE6.out HW6.out).mono ?_)
          rintro e w7 ⟨ge', ce', gw', gc', rfl, hE7, hW7, q1, q2, hB7⟩
          have hr7 := blk_up9 hB7 HR6.out
          have hrl := HK.blk_lt hr7
          have r0 := HK.blk_cell hr7 0
          have r1 := HK.blk_cell hr7 1
          have r2 := HK.blk_cell hr7 2
          have rf := fun i => HK.blk_frozen hr7 i
          have f0 : R ≠ w7.heap.size := by omega
          have f1 : w7.heap.size ≠ R := by omega
          have HE7 := Lib.hid hE7
          have HW7 := Lib.hid hW7
          have HQ1 := Lib.hid q1
          have HQ2 := Lib.hid q2
          have HB7 := Lib.hid hB7
          clear hE7 hW7 q1 q2 hB7 hr7 y0 y1 y2 y3 y4
          go_wp2_with (fail)
          go_meet
          case rel =>
            obtain ⟨F', hT'⟩ := HT5.out.next HP.out HB7.out HE7.out HW7.out HQ1.out HQ2.out HC.out.fav HC.out.short HC.out.wpos (ce' := ce') (gc' := gc')
            refine ⟨_, F', nodes', now', ge', ce', gw', gc', went', rfl, hT'.up ?_, by have := HC.out.len; have := HL1.out; omega, by have := HC.out.wlen; have := HL2.out; omega⟩
            exact (Below.refl _ _).alloc (Nat.le_refl _) _
        · as_aux_lemma =>
          have e7 : (K : Int) % 7 = 5 := by omega
          clear hkk
          have hlk := looks_any HT5.out.hist ge ce went.length gc (some ⟨gw, 0, none⟩) HT5.out.ents N M S
          have hlk2 := fun W (hB : Below w5.heap.size w5 W) => looks_any (HT5.out.up hB).hist ge ce went.length gc (some ⟨gw, 0, none⟩) (HT5.out.up hB).ents N M S
          unfold RetTr at hlk hlk2
          have HLK := Lib.hid hlk
          have HLK2 := Lib.hid hlk2
          have y0 := HK.blk_cell HY.out 0
          have y1 := HK.blk_cell HY.out 1
          have y2 := HK.blk_cell HY.out 2
          have y3 := HK.blk_cell HY.out 3
          have y4 := HK.blk_cell HY.out 4
          have r0 := HK.blk_cell HT5.out.box 0
          have r1 := HK.blk_cell HT5.out.box 1
          have r2 := HK.blk_cell HT5.out.box 2
          clear hlk hlk2
          go_wp2_with (fail)
          (with_reducible refine HLK.out.mono ?_)
          rintro e w6 ⟨rfl, hB6⟩
          have hy := blk_up9 hB6 HY.out
          have hr := blk_up9 hB6 HT5.out.box
          have y0 := HK.blk_cell hy 0
          have y1 := HK.blk_cell hy 1
          have y2 := HK.blk_cell hy 2
          have y3 := HK.blk_cell hy 3
          have y4 := HK.blk_cell hy 4
          have r0 := HK.blk_cell hr 0
          have r1 := HK.blk_cell hr 1
          have r2 := HK.blk_cell hr 2
          have HB6 := Lib.hid hB6
          clear hB6 hy hr
          go_wp2_with (fail)
          (with_reducible refine (HLK2.out w6 HB6.out).mono ?_)
          rintro e w7 ⟨rfl, hB7⟩
          have HB7 := Lib.hid hB7
          clear hB7 y0 y1 y2 y3 y4 r0 r1 r2
          go_wp2_with (fail)
          go_meet
          case rel => exact ⟨tt, FF, nodes, now, ge, ce, gw, gc, went, rfl, HT5.out.up (HB6.out.trans (HB7.out.mono HB6.out.size)), by have := HL1.out; omega, by have := HL2.out; omega⟩
        · as_aux_lemma =>
          have e7 : (K : Int) % 7 = 6 := by omega
          clear hkk
          have hsv := save_any HT5.out.hist
          unfold RetV at hsv
          rw [ents_len] at hsv
          obtain ⟨nl, hnl⟩ : ∃ nl, nl = nodes.length := ⟨_, rfl⟩
          have hbox := HT5.out.box
          rw [← hnl] at hsv hbox
          have hpos : 0 < nl := by rw [hnl]; exact HT5.out.hist.1.pos
          have hle : nl ≤ 1000 := by rw [hnl]; exact HT5.out.hist.1.le
          have HSV := Lib.hid hsv
          have HNL := Lib.hid hnl
          have HBX := Lib.hid hbox
          have y0 := HK.blk_cell HY.out 0
          have y1 := HK.blk_cell HY.out 1
          have y2 := HK.blk_cell HY.out 2
          have y3 := HK.blk_cell HY.out 3
          have y4 := HK.blk_cell HY.out 4
          clear hsv hnl hbox
          go_upto_region 42 with (go_at_call 19; (with_reducible refine HSV.out.mono ?_); rintro e w6 ⟨v6, rfl, hv6, hB6⟩; obtain ⟨g6, c6, rfl, hg6, hl6⟩ := own_form9 hv6 hpos; have HV6 := Lib.hid hv6; have HB6 := Lib.hid hB6; have HG1 := Lib.hid hg6; have HG2 := Lib.hid hl6; have hb6 := blk_up9 hB6 HY.out; have y0 := HK.blk_cell hb6 0; have y1 := HK.blk_cell hb6 1; have y2 := HK.blk_cell hb6 2; have y3 := HK.blk_cell hb6 3; have y4 := HK.blk_cell hb6 4; clear hv6 hB6 hg6 hl6 hb6)
          obtain ⟨cu0, hcu0, hsz0⟩ : ∃ cu : Array Value, w6.heap[g6]? = some (.cells cu 45 (0, 0)) ∧ nl * 4 ≤ cu.size := by
            rcases HV6.out.2 with ⟨h, _⟩ | ⟨g, cap, cur, h, _, hh, h1, _, h3, _⟩
            · cases h
            · cases h
              exact ⟨cur, hh, by omega⟩
          have HC0 := Lib.hid hcu0
          have HZ0 := Lib.hid hsz0
          have HS6 : Hid (EntsAt w6 g6 (ents nodes)) := Lib.hid (EntsAt.of HV6.out (by rw [ents_len, HNL.out]))
          have HRg : Hid (R ≠ g6) := Lib.hid (by have := HK.blk_lt HT5.out.box; have := HG1.out; omega)
          have hln : (ents nodes).length = nl := by rw [ents_len, HNL.out]
          have hz : ∀ (j : Nat) (y : Ent), (ents nodes)[j]? = some y → y.state.size ≤ maxLen ∧ y.note.size ≤ maxLen := fun j y hy => by have := HT5.out.short j y hy; simp only [maxLen]; omega
          have HLN := Lib.hid hln
          have HZS := Lib.hid hz
          clear hcu0 hsz0 hln hz
          by_cases hrt : Right (ents nodes) M
          · obtain ⟨m, hm⟩ : ∃ m : Nat, M = (m : Int) := ⟨M.toNat, by have := hrt.1; omega⟩
            subst hm
            have hop := open_yes w6 g6 nl c6 (ents nodes) m HS6.out HLN.out hle HT5.out.short hrt
            unfold OpenI at hop
            have HOP := Lib.hid hop
            have HRT := Lib.hid hrt
            clear hop hrt
            go_upto_region 43 with (go_at_call 27; (with_reducible refine HOP.out.mono ?_); rintro e w7 ⟨t', F', rfl, hH7, hB7, hF7⟩; have HH7 := Lib.hid hH7; have HB7 := Lib.hid hB7; have HF7 := Lib.hid hF7; have hb7 := blk_up9 hB7 (blk_up9 HB6.out HY.out); have y0 := HK.blk_cell hb7 0; have y1 := HK.blk_cell hb7 1; have y2 := HK.blk_cell hb7 2; have y3 := HK.blk_cell hb7 3; have y4 := HK.blk_cell hb7 4; clear hH7 hB7 hF7 hb7)
            have hr7 := blk_up9 HB7.out (blk_up9 HB6.out HBX.out)
            have r0 := HK.blk_cell hr7 0
            have r1 := HK.blk_cell hr7 1
            have r2 := HK.blk_cell hr7 2
            have hrop := ropen_any w7 ge nl ce (ents nodes) m HLN.out hpos hle ((HT5.out.ents.below HB6.out (Nat.le_refl _)).below HB7.out (Nat.le_refl _)) HZS.out
            have hrop2 := hrop.mono (R' := RetOpY w7 (ents nodes) nl m) (fun e w' h => by
              rcases h with ⟨h1, _⟩ | ⟨_, h1, _⟩ | ⟨_, m2, h1, _, h2⟩
              · exact absurd HT5.out.short h1
              · exact absurd HRT.out h1
              · obtain rfl : m = m2 := by omega
                exact h2)
            have HRO := Lib.hid hrop2
            clear hrop hrop2
            go_wp2_with (fail)
            (with_reducible refine HRO.out.mono ?_)
            rintro e w8 ⟨ge', ce', gw', gc', lw, rfl, hE8, hW8, hfv, q1, q2, hB8⟩
            have HE8 := Lib.hid hE8
            have HW8 := Lib.hid hW8
            have HFV := Lib.hid hfv
            have HQ1 := Lib.hid q1
            have HQ2 := Lib.hid q2
            have HWN : Hid ((lw ++ [m]).length = nl + 1) := Lib.hid hW8.len
            have hat := addAll_take HRT.out (by rw [HLN.out]; exact hle) (ents nodes).length (Nat.le_refl _)
            rw [List.take_length] at hat
            have HEN : Hid (ents (openN (ents nodes) m) = ents nodes) := Lib.hid (by unfold openN; rw [ents_lead]; exact hat.1)
            have HNN : Hid ((openN (ents nodes) m).length = nl) := Lib.hid (by unfold openN; rw [lead_length, hat.2.1, HLN.out])
            clear hE8 hW8 hfv q1 q2 hat
            have hbx9 := blk_up9 hB8 hr7
            have HR8 := Lib.hid hbx9
            have s8 := HK.blk_lt hbx9
            have hg8 := blk_up9 hB8 (blk_up9 HB7.out (show w6.heap[g6]? = some (.cells cu0 45 (0, 0)) from HC0.out))
            have HG8 := Lib.hid hg8
            have HB8 := Lib.hid hB8
            clear hbx9 hg8 hB8 hr7 y0 y1 y2 y3 y4 r0 r1 r2
            go_wp2_with (fail)
            obtain ⟨w9, hw9⟩ : ∃ w9, w9 = w8.alloc (.cells #[.slice (some ⟨ge', 0, none⟩) nl ce', .int .i64 (m : Int), .slice (some ⟨gw', 0, none⟩) (nl + 1) gc'] 63) := ⟨_, rfl⟩
            rw [← hw9]
            have hB89 : Below w8.heap.size w8 w9 := by rw [hw9]; exact (Below.refl _ w8).alloc (Nat.le_refl _) _
            have hX9 : w9.heap[w8.heap.size]? = some (.cells #[.slice (some ⟨ge', 0, none⟩) nl ce', .int .i64 (m : Int), .slice (some ⟨gw', 0, none⟩) (nl + 1) gc'] 63 (0, 0)) := by rw [hw9]; exact HK.blk_new _ _
            have HB89 := Lib.hid hB89
            have HX9 := Lib.hid hX9
            have HG9 := Lib.hid (blk_up9 hB89 HG8.out)
            have HR9 := Lib.hid (blk_up9 hB89 HR8.out)
            have HXg : Hid (w8.heap.size ≠ g6) := Lib.hid (by have := HK.blk_lt HG8.out; omega)
            clear hw9 hB89 hX9
            go_loopw [231] (fun i wx => ∃ (j : Nat) (cu : Array Value), j ≤ nl ∧ i = .int .i64 j ∧ nl * 4 ≤ cu.size ∧ wx.heap[g6]? = some (.cells cu 45 (0, 0)) ∧ Frm (fun b => b = g6) w9 wx) (fun i _ => nl - (intOf i).toNat)
            case atStart => exact ⟨0, cu0, Nat.zero_le _, rfl, HZ0.out, HG9.out, Frm.refl _ w9⟩
            case round =>
              obtain ⟨j, cu, hj, rfl, hcu, hcg, hF⟩ := hrel
              have HCU := Lib.hid hcu
              have HCG := Lib.hid hcg
              have HF := Lib.hid hF
              clear hcu hcg hF
              by_cases hjn : (j : Int) < (nl : Int)
              · have b9 : (0 : Int) ≤ (j : Int) := by omega
                have hz := HCU.out
                obtain ⟨u3, hu3⟩ : ∃ u, cu[j * 4 + 3]? = some u := ⟨_, Array.getElem?_eq_getElem (by omega)⟩
                have c3 : wr.cell? ⟨g6, j * 4 + 3, none⟩ = some u3 := (HK.blk_cell HCG.out _).trans hu3
                have cf := fun i => HK.blk_frozen HCG.out i
                clear hz hu3
                go_wp2_with (fail)
                go_roundw
                case rel => exact ⟨j + 1, _, by omega, by go_num, by simpa using HCU.out, HK.blk_set HCG.out _ _, HF.out.setCell (p := ⟨g6, j * 4 + 3, none⟩) (.inl rfl) _⟩
                case measure => simp [intOf]; omega
              · have hx := HF.out.heap HX9.out (fun e => HXg.out e)
                have x0 := HK.blk_cell hx 0
                have x1 := HK.blk_cell hx 1
                have x2 := HK.blk_cell hx 2
                have hr := HF.out.heap HR9.out (fun e => HRg.out e)
                have r0 := HK.blk_cell hr 0
                have r1 := HK.blk_cell hr 1
                have r2 := HK.blk_cell hr 2
                have rf := fun i => HK.blk_frozen hr i
                clear hx hr
                go_wp2_with (fail)
                go_region
                go_wp2_with (fail)
                go_meet
                case rel =>
                  have hT' := HT5.out.reopen HB6.out HB7.out (HB8.out.trans (HB89.out.mono HB8.out.size)) HG1.out HG2.out HF.out HH7.out HF7.out (ge' := ge') (ce' := ce') (gw' := gw') (gc' := gc') (by rw [HEN.out]; exact HE8.out.below HB89.out (Nat.le_refl _)) (by rw [HWN.out]; exact HW8.out.below HB89.out (Nat.le_refl _)) HQ1.out HQ2.out HFV.out (by rw [HEN.out]; exact HT5.out.short) (by rw [HWN.out]; omega)
                  rw [HNN.out, HWN.out] at hT'
                  exact ⟨t', F', openN (ents nodes) m, m, ge', ce', gw', gc', lw ++ [m], rfl, hT'.up ⟨rfl, rfl, rfl, Nat.le_refl _, fun _ _ => rfl⟩, by rw [HNN.out]; have := HL1.out; have := HNL.out; omega, by rw [HWN.out]; have := HL1.out; have := HNL.out; omega⟩
          · have hop := open_no w6 g6 nl c6 (ents nodes) M HS6.out HLN.out hle HT5.out.short hrt
            have HOP := Lib.hid hop
            have HRT := Lib.hid hrt
            clear hop hrt
            go_upto_region 43 with (go_at_call 27; (with_reducible refine HOP.out.mono ?_); rintro e w7 ⟨rfl, hB7⟩; have HB7 := Lib.hid hB7; have hb7 := blk_up9 hB7 (blk_up9 HB6.out HY.out); have y0 := HK.blk_cell hb7 0; have y1 := HK.blk_cell hb7 1; have y2 := HK.blk_cell hb7 2; have y3 := HK.blk_cell hb7 3; have y4 := HK.blk_cell hb7 4; clear hB7 hb7)
            have hr7 := blk_up9 HB7.out (blk_up9 HB6.out HBX.out)
            have r0 := HK.blk_cell hr7 0
            have r1 := HK.blk_cell hr7 1
            have r2 := HK.blk_cell hr7 2
            have hrop := ropen_any w7 ge nl ce (ents nodes) M HLN.out hpos hle ((HT5.out.ents.below HB6.out (Nat.le_refl _)).below HB7.out (Nat.le_refl _)) HZS.out
            have hrop2 := hrop.mono (R' := RetOpN w7 2) (fun e w' h => by
              rcases h with ⟨h1, _⟩ | ⟨_, h1, h2⟩ | ⟨_, m2, h1, h2, _⟩
              · exact absurd HT5.out.short h1
              · exact h2
              · exact absurd h2 HRT.out)
            unfold RetOpN at hrop2
            have HRO := Lib.hid hrop2
            clear hrop hrop2
            go_wp2_with (fail)
            (with_reducible refine HRO.out.mono ?_)
            rintro e w8 ⟨rfl, hB8⟩
            have hbx9 := blk_up9 hB8 hr7
            have HR8 := Lib.hid hbx9
            have s8 := HK.blk_lt hbx9
            have hg8 := blk_up9 hB8 (blk_up9 HB7.out (show w6.heap[g6]? = some (.cells cu0 45 (0, 0)) from HC0.out))
            have HG8 := Lib.hid hg8
            have HB8 := Lib.hid hB8
            clear hbx9 hg8 hB8 hr7 y0 y1 y2 y3 y4 r0 r1 r2
            go_wp2_with (fail)
            obtain ⟨w9, hw9⟩ : ∃ w9, w9 = w8.alloc (.cells #[.slice none 0 0, .int .i64 0, .slice none 0 0] 63) := ⟨_, rfl⟩
            rw [← hw9]
            have hB89 : Below w8.heap.size w8 w9 := by rw [hw9]; exact (Below.refl _ w8).alloc (Nat.le_refl _) _
            have hX9 : w9.heap[w8.heap.size]? = some (.cells #[.slice none 0 0, .int .i64 0, .slice none 0 0] 63 (0, 0)) := by rw [hw9]; exact HK.blk_new _ _
            have HB89 := Lib.hid hB89
            have HX9 := Lib.hid hX9
            have HG9 := Lib.hid (blk_up9 hB89 HG8.out)
            have HR9 := Lib.hid (blk_up9 hB89 HR8.out)
            have HXg : Hid (w8.heap.size ≠ g6) := Lib.hid (by have := HK.blk_lt HG8.out; omega)
            clear hw9 hB89 hX9
            go_loopw [231] (fun i wx => ∃ (j : Nat) (cu : Array Value), j ≤ nl ∧ i = .int .i64 j ∧ nl * 4 ≤ cu.size ∧ wx.heap[g6]? = some (.cells cu 45 (0, 0)) ∧ Frm (fun b => b = g6) w9 wx) (fun i _ => nl - (intOf i).toNat)
            case atStart => exact ⟨0, cu0, Nat.zero_le _, rfl, HZ0.out, HG9.out, Frm.refl _ w9⟩
            case round =>
              obtain ⟨j, cu, hj, rfl, hcu, hcg, hF⟩ := hrel
              have HCU := Lib.hid hcu
              have HCG := Lib.hid hcg
              have HF := Lib.hid hF
              clear hcu hcg hF
              by_cases hjn : (j : Int) < (nl : Int)
              · have b9 : (0 : Int) ≤ (j : Int) := by omega
                have hz := HCU.out
                obtain ⟨u3, hu3⟩ : ∃ u, cu[j * 4 + 3]? = some u := ⟨_, Array.getElem?_eq_getElem (by omega)⟩
                have c3 : wr.cell? ⟨g6, j * 4 + 3, none⟩ = some u3 := (HK.blk_cell HCG.out _).trans hu3
                have cf := fun i => HK.blk_frozen HCG.out i
                clear hz hu3
                go_wp2_with (fail)
                go_roundw
                case rel => exact ⟨j + 1, _, by omega, by go_num, by simpa using HCU.out, HK.blk_set HCG.out _ _, HF.out.setCell (p := ⟨g6, j * 4 + 3, none⟩) (.inl rfl) _⟩
                case measure => simp [intOf]; omega
              · go_wp2_with (fail)
                go_meet
                case rel =>
                  have h8 := HB6.out.trans ((HB7.out.trans (HB8.out.mono HB7.out.size)).mono HB6.out.size)
                  have h9 := h8.trans (HB89.out.mono h8.size)
                  have hz : Below w5.heap.size w5 wr := h9.trans (HF.out.below h9.size (fun b e => by have e2 : b = g6 := e; have := HG1.out; omega))
                  exact ⟨tt, FF, nodes, now, ge, ce, gw, gc, went, rfl, HT5.out.up hz, by have := HL1.out; omega, by have := HL2.out; omega⟩
      case rest =>
        clear HY HXF HXR HT5 HL1 HL2 HD6 HD7
        obtain ⟨t2, F2, nodes2, now2, ge2, ce2, gw2, gc2, went2, rfl, hT2, hl1, hl2⟩ := hcut
        have hbox := hT2.box
        have x0 := HK.blk_cell hbox 0
        have x1 := HK.blk_cell hbox 1
        have x2 := HK.blk_cell hbox 2
        have hs := shows_any hT2.hist ge2 ce2 went2.length gc2 (some ⟨gw2, 0, none⟩) hT2.ents
        unfold RetTr at hs
        have HS := Lib.hid hs
        have HT2 := Lib.hid hT2
        have HL1 := Lib.hid hl1
        have HL2 := Lib.hid hl2
        clear hbox hs hT2 hl1 hl2
        go_step
        go_wp2_with (go_at_call 32; (with_reducible refine HS.out.mono ?_); rintro e w8 ⟨rfl, hB8⟩; have HB8 := Lib.hid hB8; clear hB8)
        go_roundw
        case rel =>
          exact ⟨k + 1, by omega, by go_num, t2, F2, nodes2, now2, ge2, ce2, gw2, gc2, went2, rfl, HT2.out.up HB8.out, HL1.out, HL2.out⟩
        case measure => simp [intOf]; omega
    · go_wp2_with (fail)
      go_ret
      exact ⟨rfl, hT.below⟩
end Go.Proofs.Ythneinepdbkgeaa
