/- The walk of MeasureTells. -/
import Derived.Test.YtfebcpmbkljaoaaRefF
import Derived.Test.YtfebcpmbkljaoaaMeaY
namespace Go.Proofs.Ytfebcpmbkljaoaa
open Go.RowKit Go.HR
set_option linter.unusedVariables false
set_option linter.unusedSimpArgs false
set_option linter.unusedSectionVars false
theorem RowAt.up2 {W W' : World} {s : SL} {m i : Nat} {vs : List Value} (h : RowAt W s m i vs) (hB : Below W.heap.size W W') : RowAt W' s m i vs := h.up hB
mutual
theorem okT_up {W W' : World} (hB : Below W.heap.size W W') : ∀ {t : PT}, okT W t → okT W' t
  | .node r o s, h => ⟨⟨h.1.1.up hB, h.1.2.1, h.1.2.2.1, h.1.2.2.2.1, fun i hi => by
      obtain ⟨q, hq, hr⟩ := h.1.2.2.2.2 i hi
      exact ⟨q, hq, hr.up hB⟩⟩, h.2.1, okF_up hB h.2.2⟩
theorem okF_up {W W' : World} (hB : Below W.heap.size W W') : ∀ {ts : List PT}, okF W ts → okF W' ts
  | [], _ => trivial
  | t :: ts, h => ⟨okT_up hB h.1, okF_up hB h.2⟩
end
theorem goalsL_plT (t : PT) (ws : List (List Int)) : ∀ d ∈ goalsL t ws, d.pl.length ≤ 20000 := by
  intro d hd
  unfold goalsL at hd
  split at hd
  · rename_i h
    have hm : measT t = true := by
      unfold codeL at h
      split at h
      · assumption
      · cases h
    have := okD_pl (meas_ok hm ((goals_sub _ _ _ _).subset hd))
    omega
  · cases hd
set_option maxRecDepth 100000 in
set_option maxHeartbeats 16000000 in
theorem tells_walk (w : World) (t : PT) (sv sw : SL) (ws : List (List Int)) (hs : IsPs w.heap.size w sv t.subs) (hok : okT w t) (hw : IsW w sw ws) (hwm : sw.n ≤ maxLen) (hum : ∀ u ∈ ws, u.length ≤ maxLen) :
    Calls Try.prog 4 #[.agg (t.arr sv), sw.v] w (RetB w (.bool true)) := by
  have hsm := fun (W : World) (hB : Below w.heap.size w W) => small_call W t sv (hs.up hB) (okT_up hB hok)
  have haw := awake_call
  obtain ⟨hn, hws⟩ := id hw
  obtain ⟨G, hG⟩ : ∃ G, G = w.heap.size := ⟨_, rfl⟩
  obtain ⟨tt, htt⟩ : ∃ tt, tt = t := ⟨_, rfl⟩
  have hs' : IsPs w.heap.size w sv tt.subs := by rw [htt]; exact hs
  have HSS := Lib.hid hs'
  have hgo := fun (W : World) (hB : Below w.heap.size w W) (hz : sizeT tt ≤ 320) (hl : ws.length ≤ 20000) (hu : ∀ u ∈ ws, u.length ≤ 20000) => goals_call W tt sv sw ws (HSS.out.up hB) (by omega) (hw.below hB) hl hu
  have hst := fun (W : World) (hB : Below w.heap.size w W) (hz : sizeT tt ≤ 320) (hl : ws.length ≤ 20000) (hu : ∀ u ∈ ws, u.length ≤ 20000) => stepsn_call W tt sv sw ws (HSS.out.up hB) (by omega) (hw.below hB) hl hu
  have hpr := fun (W : World) (hB : Below w.heap.size w W) (hz : sizeT tt ≤ 320) (hl : ws.length ≤ 20000) (hu : ∀ u ∈ ws, u.length ≤ 20000) => progress_call W tt sv sw ws (HSS.out.up hB) (by omega) (hw.below hB) hl hu
  have hpm := fun (W : World) (hB : Below w.heap.size w W) (hz : sizeT tt ≤ 320) (hl : ws.length ≤ 20000) (hu : ∀ u ∈ ws, u.length ≤ 20000) => permille_call W tt sv sw ws (HSS.out.up hB) (by omega) (hw.below hB) hl hu
  have her := fun (W : World) (hB : Below w.heap.size w W) (hz : sizeT tt ≤ 320) (hl : ws.length ≤ 20000) (hu : ∀ u ∈ ws, u.length ≤ 20000) => error_call W tt sv sw ws (HSS.out.up hB) (by omega) (hw.below hB) hl hu
  have hrg := fun (W : World) (hB : Below w.heap.size w W) (hz : sizeT tt ≤ 320) (hl : ws.length ≤ 20000) (hu : ∀ u ∈ ws, u.length ≤ 20000) => ref_goals W tt sv sw ws (HSS.out.up hB) hz (hw.below hB) hl hu
  have hrp := fun (W : World) (hB : Below w.heap.size w W) (hz : sizeT tt ≤ 320) (hl : ws.length ≤ 20000) (hu : ∀ u ∈ ws, u.length ≤ 20000) => progressR_call W tt sv sw ws (HSS.out.up hB) hz (hw.below hB) hl hu
  have hrm := fun (W : World) (hB : Below w.heap.size w W) (hz : sizeT tt ≤ 320) (hl : ws.length ≤ 20000) (hu : ∀ u ∈ ws, u.length ≤ 20000) => permilleR_call W tt sv sw ws (HSS.out.up hB) hz (hw.below hB) hl hu
  rw [← htt] at hsm ⊢
  obtain ⟨rule, ⟨op, name, ⟨aa, an, ac⟩, ⟨fa, fn, fc⟩, label, ⟨ma, mn, mc⟩⟩, subs⟩ := t
  obtain ⟨sa, sn, sc⟩ := sv
  obtain ⟨wa, wn, we⟩ := sw
  have hta : PT.arr tt ⟨sa, sn, sc⟩ = #[.string rule, .int .u8 op, .string name, .slice aa an ac, .slice fa fn fc, .int .i64 label, .slice sa sn sc, .slice ma mn mc] := by rw [htt]; rfl
  unfold RetG at hgo
  unfold RetS2 at hst hpr hpm
  unfold RetGs at hrg
  unfold RetB at hrp hrm
  simp only [hta, SL.v] at hsm hgo hst hpr hpm her hrg hrp hrm hn hws hwm ⊢
  obtain ⟨w1, hw1⟩ : ∃ w1, w1 = w.alloc (.cells #[.string rule, .int .u8 op, .string name, .slice aa an ac, .slice fa fn fc, .int .i64 label, .slice sa sn sc, .slice ma mn mc] 30) := ⟨_, rfl⟩
  have hB1 : Below w.heap.size w w1 := by rw [hw1]; exact bl_al (Below.refl _ _)
  have hx1 : w1.heap[G]? = some (.cells #[.string rule, .int .u8 op, .string name, .slice aa an ac, .slice fa fn fc, .int .i64 label, .slice sa sn sc, .slice ma mn mc] 30 (0, 0)) := by rw [hw1, hG]; exact HK.blk_new _ _
  have HSM := Lib.hid (hsm w1 hB1)
  have HGO := Lib.hid hgo
  have HST := Lib.hid hst
  have HPR := Lib.hid hpr
  have HPM := Lib.hid hpm
  have HER := Lib.hid her
  have HRG := Lib.hid hrg
  have HRP := Lib.hid hrp
  have HRM := Lib.hid hrm
  have HN := Lib.hid hn
  have HWS := Lib.hid hws
  have HUM := Lib.hid hum
  have HB1 := Lib.hid hB1
  have HX1 := Lib.hid hx1
  have HW1 := Lib.hid hw1
  have HG := Lib.hid hG
  simp only [maxLen] at hwm
  clear hsm hgo hst hpr hpm her hrg hrp hrm hn hws hum hB1 hw1 hG hs hok hw hta htt hs'
  go_enter Try.func4, Try.ntmps4
  go_upto_region 1 with (fail)
  rw [← HW1.out, ← HG.out]
  go_cut [25] from 18 to 25 (fun v wx => ∃ b, v = .bool b ∧ (b = false → sizeT tt ≤ 320 ∧ wn ≤ 10) ∧ Below w1.heap.size w1 wx)
  case first =>
    have x0 := HK.blk_cell hx1 0
    have x1 := HK.blk_cell hx1 1
    have x2 := HK.blk_cell hx1 2
    have x3 := HK.blk_cell hx1 3
    have x4 := HK.blk_cell hx1 4
    have x5 := HK.blk_cell hx1 5
    have x6 := HK.blk_cell hx1 6
    have x7 := HK.blk_cell hx1 7
    clear hx1
    by_cases hn10 : wn ≤ 10
    · have y1 : ¬ (10 : Int) < (wn : Int) := by omega
      go_wp2_with (go_at_call 15; (refine HSM.out.mono ?_; rintro e w2 ⟨b, rfl, hB5, hzz⟩; have HB5 := Lib.hid hB5; have HZZ := Lib.hid hzz; clear hB5 hzz; rcases b with _ | _))
      all_goals go_meet
      all_goals first
        | exact ⟨true, rfl, fun h => (by cases h), HB5.out⟩
        | exact ⟨false, congrArg Value.bool (decide_eq_false (by omega)), fun _ => ⟨HZZ.out (by trivial), hn10⟩, HB5.out⟩
    · have y1 : (10 : Int) < (wn : Int) := by omega
      go_wp2_with (go_at_call 15; (refine HSM.out.mono ?_; rintro e w2 ⟨b, rfl, hB5, hzz⟩; have HB5 := Lib.hid hB5; clear hB5 hzz; rcases b with _ | _))
      all_goals go_meet
      all_goals first
        | exact ⟨true, rfl, fun h => (by cases h), HB5.out⟩
        | exact ⟨true, congrArg Value.bool (decide_eq_true (by omega)), fun h => (by cases h), HB5.out⟩
  case rest =>
    obtain ⟨b, rfl, hb, hB2⟩ := hcut
    obtain ⟨w2, hw2⟩ : ∃ w2 : World, w2 = wc := ⟨_, rfl⟩
    rw [← hw2] at hB2 ⊢
    clear hw2
    have HB2 := Lib.hid hB2
    clear hB2 hx1
    cases b with
    | true =>
      go_wp2_with (go_at_call 14; (refine (haw _).mono ?_; rintro e w15 ⟨rfl, hB15⟩))
      go_ret
      exact ⟨rfl, below_then HB1.out (below_then HB2.out hB15)⟩
    | false =>
      obtain ⟨hz, hwn⟩ := hb rfl
      clear hb
      go_upto_block 0 with (fail)
      go_cut [6] from 30 to 37 (fun v wx => wx = w2 ∧ ∀ u ∈ ws, u.length ≤ 20000)
      case first =>
        go_wp2_with (fail)
        go_loopw [29] (fun j wr => ∃ k : Nat, k ≤ wn ∧ j = .int .i64 k ∧ wr = w2 ∧ ∀ u ∈ ws.take k, u.length ≤ 20000) (fun j _ => wn - (intOf j).toNat)
        case atStart => exact ⟨0, by omega, rfl, rfl, by simp⟩
        case round =>
          obtain ⟨k, hk, rfl, rfl, hall⟩ := hrel
          have HALL := Lib.hid hall
          clear hall
          by_cases h1 : k < wn
          · obtain ⟨u, hu⟩ : ∃ u, ws[k]? = some u := ⟨_, List.getElem?_eq_getElem (by rw [← HN.out]; omega)⟩
            obtain ⟨g, o, rfl, sl, hc1⟩ := HWS.out.resolve_left (fun e => by rw [e] at hu; simp at hu)
            obtain ⟨hcu, hui⟩ := hc1 k u hu
            obtain ⟨⟨ua, un, uc⟩, hsl⟩ : ∃ q : SL, q = sl k := ⟨_, rfl⟩
            rw [← hsl] at hcu hui
            have hun := hui.1
            simp only [SL.v] at hcu hun
            have k0 := cell_then hcu (below_then HB1.out HB2.out)
            have htk : ws.take (k + 1) = ws.take k ++ [u] := by rw [List.take_add_one, hu]; rfl
            have hum := HUM.out u (List.mem_of_getElem? hu)
            simp only [maxLen] at hum
            rw [← hun] at hum
            have HTK := Lib.hid htk
            have HUN := Lib.hid hun
            have z0 : (0 : Int) ≤ (k : Int) := by omega
            have z1 : (k : Int) < (wn : Int) := by omega
            clear hc1 hcu hui hsl htk hu hun
            by_cases h50 : un ≤ 50
            · have y1 : ¬ (50 : Int) < (un : Int) := by omega
              go_wp2_with (fail)
              go_roundw
              case rel =>
                refine ⟨k + 1, by omega, by go_num, by trivial, fun u' hu' => ?_⟩
                rw [HTK.out, List.mem_append] at hu'
                rcases hu' with h | h
                · exact HALL.out u' h
                · rw [List.mem_singleton.1 h, ← HUN.out]; omega
              case measure => simp [intOf]; omega
            · have y1 : (50 : Int) < (un : Int) := by omega
              go_wp2_with (go_at_call 14; (refine (haw _).mono ?_; rintro e w15 ⟨rfl, hB15⟩))
              go_ret
              exact ⟨rfl, below_then HB1.out (below_then HB2.out hB15)⟩
          · have hkn : k = wn := by omega
            have y1 : ¬ ((k : Int) < (wn : Int)) := by omega
            have hall2 : ∀ u ∈ ws, u.length ≤ 20000 := by
              have h3 := HALL.out
              rw [List.take_of_length_le (by rw [← HN.out]; omega)] at h3
              exact h3
            have HALL2 := Lib.hid hall2
            clear hkn hall2
            go_wp2_with (fail)
            go_meet
            case rel => exact ⟨by first | rfl | trivial, HALL2.out⟩
      case rest =>
      obtain ⟨hwc, hu2⟩ := hcut
      obtain ⟨w3, hw3⟩ : ∃ w3 : World, w3 = wc := ⟨_, rfl⟩
      rw [← hw3]
      have hw32 : w3 = w2 := hw3.trans hwc
      subst hw32
      clear hw3 hwc
      have hl2 : ws.length ≤ 20000 := by rw [← HN.out]; omega
      have HB_w3 := Lib.hid HB2.out
      have HU2 := Lib.hid hu2
      have HL2 := Lib.hid hl2
      clear hu2 hl2
      have hbw := fun (W : World) (h : Below w1.heap.size w1 W) => below_then HB1.out h
      have go1 := fun (W : World) (h : Below w1.heap.size w1 W) => HGO.out W (hbw W h) hz HL2.out HU2.out
      have st1 := fun (W : World) (h : Below w1.heap.size w1 W) => HST.out W (hbw W h) hz HL2.out HU2.out
      have pr1 := fun (W : World) (h : Below w1.heap.size w1 W) => HPR.out W (hbw W h) hz HL2.out HU2.out
      have pm1 := fun (W : World) (h : Below w1.heap.size w1 W) => HPM.out W (hbw W h) hz HL2.out HU2.out
      have er1 := fun (W : World) (h : Below w1.heap.size w1 W) => HER.out W (hbw W h) hz HL2.out HU2.out
      have rg1 := fun (W : World) (h : Below w1.heap.size w1 W) => HRG.out W (hbw W h) hz HL2.out HU2.out
      have rp1 := fun (W : World) (h : Below w1.heap.size w1 W) => HRP.out W (hbw W h) hz HL2.out HU2.out
      have rm1 := fun (W : World) (h : Below w1.heap.size w1 W) => HRM.out W (hbw W h) hz HL2.out HU2.out
      obtain ⟨E, hE⟩ : ∃ E, E = codeL tt ws := ⟨_, rfl⟩
      obtain ⟨N, hN⟩ : ∃ N, N = countL tt ws := ⟨_, rfl⟩
      obtain ⟨K, hK⟩ : ∃ K, K = progL tt ws := ⟨_, rfl⟩
      obtain ⟨M, hM⟩ : ∃ M, M = permL tt ws := ⟨_, rfl⟩
      rw [← hE] at go1 st1 pr1 pm1 er1
      rw [← hN] at st1
      rw [← hK] at pr1
      rw [← hM] at pm1
      obtain ⟨RG, hR⟩ : ∃ RG, RG = refG tt ws := ⟨_, rfl⟩
      rw [← hR] at rg1 rp1 rm1
      have hEc : E = 0 ∨ E = 2 ∨ E = 6 := by rw [hE]; exact codeL_cases tt ws
      have hgl : E = 0 → goalsL tt ws = RG.1 ∧ N = RG.2 ∧ K = restN RG.1 ∧ M = (if RG.1 = [] then 1000 else min (1000 * restN RG.1 / 1152921504606846976) 999) := by
        intro h
        rw [hE] at h
        have h0 : goalsL tt ws = RG.1 := by rw [hR]; unfold goalsL; rw [if_pos h]; rfl
        refine ⟨h0, ?_, ?_, ?_⟩
        · rw [hN, hR]; unfold countL; rw [if_pos h]; rfl
        · rw [hK]; unfold progL; rw [if_pos h, h0]
        · rw [hM]; unfold permL; rw [if_pos h, h0]
      have hgn : E ≠ 0 → goalsL tt ws = [] ∧ N = 0 ∧ K = 0 ∧ M = 0 := by
        intro h
        rw [hE] at h
        refine ⟨?_, ?_, ?_, ?_⟩
        · unfold goalsL; rw [if_neg h]
        · rw [hN]; unfold countL; rw [if_neg h]
        · rw [hK]; unfold progL; rw [if_neg h]
        · rw [hM]; unfold permL; rw [if_neg h]
      have hg300 := len_goalsL tt ws
      have hgpl : ∀ d ∈ goalsL tt ws, d.pl.length ≤ 20000 := goalsL_plT tt ws
      have HGO1 := Lib.hid go1
      have HST1 := Lib.hid st1
      have HPR1 := Lib.hid pr1
      have HPM1 := Lib.hid pm1
      have HER1 := Lib.hid er1
      have HRG1 := Lib.hid rg1
      have HRP1 := Lib.hid rp1
      have HRM1 := Lib.hid rm1
      have HGL := Lib.hid hgl
      have HGN := Lib.hid hgn
      have HEC := Lib.hid hEc
      have HG3 := Lib.hid hg300
      have HGP := Lib.hid hgpl
      clear go1 st1 pr1 pm1 er1 rg1 rp1 rm1 hE hN hK hM hR hgl hgn hEc hg300 hgpl hbw
      have hBx := HB_w3.out
      have hxx := (hBx.block _ (HK.blk_lt HX1.out)).trans HX1.out
      have x0 := HK.blk_cell hxx 0
      have x1 := HK.blk_cell hxx 1
      have x2 := HK.blk_cell hxx 2
      have x3 := HK.blk_cell hxx 3
      have x4 := HK.blk_cell hxx 4
      have x5 := HK.blk_cell hxx 5
      have x6 := HK.blk_cell hxx 6
      have x7 := HK.blk_cell hxx 7
      clear hxx
      clear hBx
      have hcc := HGO1.out w3 HB_w3.out
      have HCC := Lib.hid hcc
      clear hcc
      go_upto_region 10 with (go_at_call 11; (refine HCC.out.mono ?_; rintro e w4 ⟨v, gs, rfl, h1, h2, hB5⟩; obtain ⟨va, vc, rfl⟩ := goal_form h2; have HGS := Lib.hid h1; have HIG := Lib.hid h2; clear h1 h2; have HB_w4 := Lib.hid (below_then HB_w3.out hB5); have HS_w4 := Lib.hid hB5; clear hB5))
      clear x0 x1 x2 x3 x4 x5 x6 x7 HCC
      have hBx := HB_w4.out
      have hxx := (hBx.block _ (HK.blk_lt HX1.out)).trans HX1.out
      have x0 := HK.blk_cell hxx 0
      have x1 := HK.blk_cell hxx 1
      have x2 := HK.blk_cell hxx 2
      have x3 := HK.blk_cell hxx 3
      have x4 := HK.blk_cell hxx 4
      have x5 := HK.blk_cell hxx 5
      have x6 := HK.blk_cell hxx 6
      have x7 := HK.blk_cell hxx 7
      clear hxx
      clear hBx
      have hcc := HST1.out w4 HB_w4.out
      have HCC := Lib.hid hcc
      clear hcc
      go_upto_region 11 with (go_at_call 16; (refine HCC.out.mono ?_; rintro e w5 ⟨rfl, hB5⟩; skip; have HB_w5 := Lib.hid (below_then HB_w4.out hB5); have HS_w5 := Lib.hid hB5; clear hB5))
      clear x0 x1 x2 x3 x4 x5 x6 x7 HCC
      have hBx := HB_w5.out
      have hxx := (hBx.block _ (HK.blk_lt HX1.out)).trans HX1.out
      have x0 := HK.blk_cell hxx 0
      have x1 := HK.blk_cell hxx 1
      have x2 := HK.blk_cell hxx 2
      have x3 := HK.blk_cell hxx 3
      have x4 := HK.blk_cell hxx 4
      have x5 := HK.blk_cell hxx 5
      have x6 := HK.blk_cell hxx 6
      have x7 := HK.blk_cell hxx 7
      clear hxx
      clear hBx
      have hcc := HPR1.out w5 HB_w5.out
      have HCC := Lib.hid hcc
      clear hcc
      go_upto_region 12 with (go_at_call 17; (refine HCC.out.mono ?_; rintro e w6 ⟨rfl, hB5⟩; skip; have HB_w6 := Lib.hid (below_then HB_w5.out hB5); have HS_w6 := Lib.hid hB5; clear hB5))
      clear x0 x1 x2 x3 x4 x5 x6 x7 HCC
      have hBx := HB_w6.out
      have hxx := (hBx.block _ (HK.blk_lt HX1.out)).trans HX1.out
      have x0 := HK.blk_cell hxx 0
      have x1 := HK.blk_cell hxx 1
      have x2 := HK.blk_cell hxx 2
      have x3 := HK.blk_cell hxx 3
      have x4 := HK.blk_cell hxx 4
      have x5 := HK.blk_cell hxx 5
      have x6 := HK.blk_cell hxx 6
      have x7 := HK.blk_cell hxx 7
      clear hxx
      clear hBx
      have hcc := HPM1.out w6 HB_w6.out
      have HCC := Lib.hid hcc
      clear hcc
      go_upto_region 13 with (go_at_call 18; (refine HCC.out.mono ?_; rintro e w7 ⟨rfl, hB5⟩; skip; have HB_w7 := Lib.hid (below_then HB_w6.out hB5); have HS_w7 := Lib.hid hB5; clear hB5))
      clear x0 x1 x2 x3 x4 x5 x6 x7 HCC
      have hBx := HB_w7.out
      have hxx := (hBx.block _ (HK.blk_lt HX1.out)).trans HX1.out
      have x0 := HK.blk_cell hxx 0
      have x1 := HK.blk_cell hxx 1
      have x2 := HK.blk_cell hxx 2
      have x3 := HK.blk_cell hxx 3
      have x4 := HK.blk_cell hxx 4
      have x5 := HK.blk_cell hxx 5
      have x6 := HK.blk_cell hxx 6
      have x7 := HK.blk_cell hxx 7
      clear hxx
      clear hBx
      have hcc := HER1.out w7 HB_w7.out
      have HCC := Lib.hid hcc
      clear hcc
      go_upto_region 14 with (go_at_call 19; (refine HCC.out.mono ?_; rintro e w8 ⟨rfl, hB5⟩; skip; have HB_w8 := Lib.hid (below_then HB_w7.out hB5); have HS_w8 := Lib.hid hB5; clear hB5))
      clear x0 x1 x2 x3 x4 x5 x6 x7 HCC
      obtain ⟨n, hn⟩ : ∃ n, n = gs.length := ⟨_, rfl⟩
      rw [← hn]
      have HNL := Lib.hid hn
      clear hn
      rcases HEC.out with rfl | rfl | rfl
      · obtain ⟨hg1, e1, e2, e3⟩ := HGL.out rfl
        have hrgN := HRG1.out
        rw [← e1] at hrgN
        have hrpN := HRP1.out
        rw [← e2] at hrpN
        have hrmN := HRM1.out
        rw [← e3] at hrmN
        have HRGN := Lib.hid hrgN
        have HRPN := Lib.hid hrpN
        have HRMN := Lib.hid hrmN
        clear hrgN hrpN hrmN e1 e2 e3
        have hgs0 := HGS.out
        rw [hg1] at hgs0
        have hgpl := HGP.out
        rw [hg1] at hgpl
        have hg3 := HG3.out
        rw [hg1] at hg3
        have HGS0 := Lib.hid hgs0
        have HGPL := Lib.hid hgpl
        have HGL3 := Lib.hid hg3
        clear hg1 hgs0 hgpl hg3
        have hxx := (HB_w8.out.block _ (HK.blk_lt HX1.out)).trans HX1.out
        have x0 := HK.blk_cell hxx 0
        have x1 := HK.blk_cell hxx 1
        have x2 := HK.blk_cell hxx 2
        have x3 := HK.blk_cell hxx 3
        have x4 := HK.blk_cell hxx 4
        have x5 := HK.blk_cell hxx 5
        have x6 := HK.blk_cell hxx 6
        have x7 := HK.blk_cell hxx 7
        clear hxx
        have hrg8 := HRGN.out w8 HB_w8.out
        have HRG8 := Lib.hid hrg8
        clear hrg8
        go_upto_region 17 with (go_at_call 20; (refine HRG8.out.mono ?_; rintro e w9 ⟨v9, gs9, rfl, h1, h2, hB5⟩; have HGS9 := Lib.hid h1; have HIG9 := Lib.hid h2; have HB_w9 := Lib.hid (below_then HB_w8.out hB5); have HS_w9 := Lib.hid hB5; clear h1 h2 hB5))
        clear x0 x1 x2 x3 x4 x5 x6 x7
        obtain ⟨va9, vc9, hv9⟩ := goal8_form HIG9.out
        have hig4 : IsG w9 w3.heap.size (.slice va n vc) gs := by
          have h3 := HIG.out
          rw [← HNL.out] at h3
          exact h3.below (below_then HS_w5.out (below_then HS_w6.out (below_then HS_w7.out (below_then HS_w8.out HS_w9.out))))
        have hsame := goals_same w9 _ _ _ _ gs gs9 hig4 HIG9.out (by rw [HGS0.out, HGS9.out]) (by have h5 := congrArg List.length HGS0.out; rw [List.length_map] at h5; have := HGL3.out; omega) (fun x hx => HGPL.out x.d (by rw [← HGS0.out]; exact List.mem_map.2 ⟨x, hx, rfl⟩))
        unfold RetD at hsame
        have HSAME := Lib.hid hsame
        clear hsame hig4
        subst hv9
        go_wp2_with (first
          | (go_at_call 21; (refine HSAME.out.mono ?_; rintro e w10 ⟨rfl, d10, hw10⟩
                             have hB10 : Below w1.heap.size w1 w10 := by rw [hw10]; exact HB_w9.out.trans ⟨rfl, rfl, rfl, Nat.le_refl _, fun _ _ => rfl⟩
                             have HB_w10 := Lib.hid hB10
                             have hxx := (hB10.block _ (HK.blk_lt HX1.out)).trans HX1.out
                             have x0 := HK.blk_cell hxx 0
                             have x1 := HK.blk_cell hxx 1
                             have x2 := HK.blk_cell hxx 2
                             have x3 := HK.blk_cell hxx 3
                             have x4 := HK.blk_cell hxx 4
                             have x5 := HK.blk_cell hxx 5
                             have x6 := HK.blk_cell hxx 6
                             have x7 := HK.blk_cell hxx 7
                             clear hxx
                             have hrp := HRPN.out w10 hB10
                             have HRP10 := Lib.hid hrp
                             clear hrp hB10 hw10))
          | (go_at_call 22; (refine HRP10.out.mono ?_; rintro e w11 ⟨rfl, hB5⟩
                             have hB11 := below_then HB_w10.out hB5
                             have HB_w11 := Lib.hid hB11
                             have hxx := (hB11.block _ (HK.blk_lt HX1.out)).trans HX1.out
                             have y0 := HK.blk_cell hxx 0
                             have y1 := HK.blk_cell hxx 1
                             have y2 := HK.blk_cell hxx 2
                             have y3 := HK.blk_cell hxx 3
                             have y4 := HK.blk_cell hxx 4
                             have y5 := HK.blk_cell hxx 5
                             have y6 := HK.blk_cell hxx 6
                             have y7 := HK.blk_cell hxx 7
                             clear hxx
                             have hrm := HRMN.out w11 hB11
                             have HRM11 := Lib.hid hrm
                             clear hrm hB11 hB5))
          | (go_at_call 23; (refine HRM11.out.mono ?_; rintro e w12 ⟨rfl, hB5⟩
                             have HB_w12 := Lib.hid (below_then HB_w11.out hB5)
                             clear hB5))
          | (go_at_call 14; (refine (haw _).mono ?_; rintro e w15 ⟨rfl, hB15⟩)))
        go_ret
        exact ⟨by simp, below_then HB1.out (below_then HB_w12.out hB15)⟩
      · have hg := HGN.out (by decide)
        obtain ⟨hg1, rfl, rfl, rfl⟩ := hg
        have hgs0 := HGS.out
        rw [hg1] at hgs0
        have hn0 : n = 0 := by rw [HNL.out, ← List.length_map (f := fun y : StepV => y.d), hgs0]; rfl
        subst hn0
        clear hg1 hgs0
        go_wp2_with (go_at_call 14; (refine (haw _).mono ?_; rintro e w15 ⟨rfl, hB15⟩))
        go_ret
        exact ⟨rfl, below_then HB1.out (below_then HB_w8.out hB15)⟩
      · have hg := HGN.out (by decide)
        obtain ⟨hg1, rfl, rfl, rfl⟩ := hg
        have hgs0 := HGS.out
        rw [hg1] at hgs0
        have hn0 : n = 0 := by rw [HNL.out, ← List.length_map (f := fun y : StepV => y.d), hgs0]; rfl
        subst hn0
        clear hg1 hgs0
        go_wp2_with (go_at_call 14; (refine (haw _).mono ?_; rintro e w15 ⟨rfl, hB15⟩))
        go_ret
        exact ⟨rfl, below_then HB1.out (below_then HB_w8.out hB15)⟩
end Go.Proofs.Ytfebcpmbkljaoaa
