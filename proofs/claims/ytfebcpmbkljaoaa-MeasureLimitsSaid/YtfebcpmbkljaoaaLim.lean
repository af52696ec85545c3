/- The walk of MeasureLimits. -/
import Derived.Test.YtfebcpmbkljaoaaLimB
import Derived.Test.YtfebcpmbkljaoaaPick
import Derived.Test.YtfebcpmbkljaoaaEachB
import Derived.Deep.CutBlock
import Derived.Deep.RegionLaw
namespace Go.Proofs.Ytfebcpmbkljaoaa
open Go.RowKit Go.HR
set_option linter.unusedVariables false
set_option linter.unusedSimpArgs false
set_option linter.unusedSectionVars false
set_option maxRecDepth 100000 in
set_option maxHeartbeats 64000000 in
theorem limits_walk (w : World) (a : Option Addr) (n c : Nat) (L : List Nat) (h : BytesAt w a n L) (n1 n2 : Nat) (hn1 : n1 ≤ 255) (hn2 : n2 ≤ 255) (n3 : Int) (h3 : -9223372036854775808 ≤ n3) (h3' : n3 ≤ 9223372036854775807) : Calls Try.prog 9 #[.slice a n c, .int .u8 n1, .int .u8 n2, .int .i64 n3] w (RetB w (.bool true)) := by
  have hb := built_call w a n c L h
  unfold RetP at hb
  have hm := built_meas L
  have hsz := built_size2 L
  have hpl := built_plain L
  obtain ⟨t, ht⟩ : ∃ t, t = builtT L := ⟨_, rfl⟩
  rw [← ht] at hb hm hsz hpl
  obtain ⟨na, hna⟩ : ∃ na, na = (goalsB L).length := ⟨_, rfl⟩
  have hna3 : na ≤ 300 := by rw [hna]; exact goalsB_len L
  have hgl0 : goalsL t [] = goalsB L := by rw [ht]; rfl
  have hgo := fun (W : World) (sv : SL) (hs : IsPs W.heap.size W sv t.subs) => goals_at (W := W) (t := t) (sv := sv) (s := SL.nil) (ps := []) hm hs (IsW.nil W) (fun p hp => by cases hp) (by simp) (by simp)
  have hat := fun (W : World) (sv s : SL) (is : List Int) (hs : IsPs W.heap.size W sv t.subs) (hi : IsI W s is) (hl : is.length ≤ 20000) => at_new W t sv s is hs hi hl (by omega) hpl
  have hst := fun (W : World) (sv s : SL) (ws : List (List Int)) (hs : IsPs W.heap.size W sv t.subs) (hw : IsW W s ws) (hl : ws.length ≤ 20000) (hu : ∀ u ∈ ws, u.length ≤ 20000) => stepsn_call W t sv s ws hs (by omega) hw hl hu
  have hwi := fun (W : World) (sv su s : SL) (u : PT) (is : List Int) (hs : IsPs W.heap.size W sv t.subs) (hu : IsPs W.heap.size W su u.subs) (hi : IsI W s is) (hl : is.length ≤ 20000) (hz : sizeT u ≤ 9000) (hp : plainT u) => with_call W t u sv su s is hs hu hi hl (by omega) hz hpl hp
  simp only [List.map_nil, hgl0] at hgo
  obtain ⟨tr, hT⟩ : ∃ tr, tr = t := ⟨_, rfl⟩
  have hTB : tr = builtT L := hT.trans ht
  rw [← hT] at hat hst hwi
  obtain ⟨rule, ⟨op, name, ⟨aa, an, ac⟩, ⟨fa, fn, fc⟩, label, ⟨ma, mn, mc⟩⟩, subs⟩ := t
  have hta : ∀ sv : SL, tr.arr sv = #[.string rule, .int .u8 op, .string name, .slice aa an ac, .slice fa fn fc, .int .i64 label, .slice sv.a sv.n sv.c, .slice ma mn mc] := fun sv => by rw [hT]; rfl
  have hts : tr.subs = subs := by rw [hT]; rfl
  simp only [hta, hts] at hat hst hwi
  simp only [PT.arr, PT.rule, PT.o, PT.subs, SL.v, SL.nil] at hb hgo hat hst hwi
  unfold RetGo at hgo
  unfold RetWq at hat
  unfold RetS2 at hst
  unfold RetW at hwi
  have haw := awake_call
  have hh := fun W => hole_exact W
  simp only [holeT, PT.arr, PT.rule, PT.o, PO.nil, SL.nil, SL.v] at hh
  have HB := Lib.hid hb
  have HGO := Lib.hid hgo
  have HAT := Lib.hid hat
  have HST := Lib.hid hst
  have HWI := Lib.hid hwi
  have HTB := Lib.hid hTB
  have HNA := Lib.hid hna
  have HH := Lib.hid hh
  clear hb hm hsz hpl ht hgl0 hgo hat hst hwi hT hta hts hTB hna hh h
  go_enter Try.func9, Try.ntmps9
  go_upto_region 2 with (go_at_call 10; (refine HB.out.mono ?_; rintro e w1 ⟨⟨sa, sn, sc⟩, rfl, hq1, hB1⟩))
  obtain ⟨w2, hw2⟩ : ∃ w2, w2 = w1.alloc (.cells #[.string rule, .int .u8 op, .string name, .slice aa an ac, .slice fa fn fc, .int .i64 label, .slice sa sn sc, .slice ma mn mc] 30) := ⟨_, rfl⟩
  rw [← hw2]
  obtain ⟨P, hP⟩ : ∃ P, P = w1.heap.size := ⟨_, rfl⟩
  rw [← hP]
  have hs2 := (hq1.ps (n0 := w1.heap.size) fun k hk => hk.2).up ((Below.refl _ w1).alloc (Nat.le_refl _) (.cells #[.string rule, .int .u8 op, .string name, .slice aa an ac, .slice fa fn fc, .int .i64 label, .slice sa sn sc, .slice ma mn mc] 30))
  rw [← hw2] at hs2
  have hB2 : Below w.heap.size w w2 := by rw [hw2]; exact hB1.alloc hB1.size _
  have hpb2 : w2.heap[P]? = some (.cells #[.string rule, .int .u8 op, .string name, .slice aa an ac, .slice fa fn fc, .int .i64 label, .slice sa sn sc, .slice ma mn mc] 30 (0, 0)) := by rw [hw2, hP]; exact HK.blk_new _ _
  have hg2 := HGO.out w2 ⟨sa, sn, sc⟩ hs2
  simp only at hg2
  have HG2 := Lib.hid hg2
  have HS2 := Lib.hid hs2
  have HB2 := Lib.hid hB2
  have HPB2 := Lib.hid hpb2
  have p0 : w2.cell? ⟨P, 0, none⟩ = some (.string rule) := HK.blk_cell hpb2 0
  have p1 : w2.cell? ⟨P, 1, none⟩ = some (.int .u8 op) := HK.blk_cell hpb2 1
  have p2 : w2.cell? ⟨P, 2, none⟩ = some (.string name) := HK.blk_cell hpb2 2
  have p3 : w2.cell? ⟨P, 3, none⟩ = some (.slice aa an ac) := HK.blk_cell hpb2 3
  have p4 : w2.cell? ⟨P, 4, none⟩ = some (.slice fa fn fc) := HK.blk_cell hpb2 4
  have p5 : w2.cell? ⟨P, 5, none⟩ = some (.int .i64 label) := HK.blk_cell hpb2 5
  have p6 : w2.cell? ⟨P, 6, none⟩ = some (.slice sa sn sc) := HK.blk_cell hpb2 6
  have p7 : w2.cell? ⟨P, 7, none⟩ = some (.slice ma mn mc) := HK.blk_cell hpb2 7
  clear hs2 hq1 hB1 hw2 hP hB2 hpb2 hg2
  go_upto_region 3 with (go_at_call 11; (refine HG2.out.mono ?_; rintro e w4 ⟨v4, gs, rfl, hgd, hGs, hB4⟩; obtain ⟨ga, gc, rfl⟩ := goal_form hGs; have hlg : gs.length = na := (by rw [HNA.out, ← hgd, List.length_map]); rw [hlg] at hGs ⊢))
  have HGD := Lib.hid hgd
  have HGS := Lib.hid hGs
  have HGL := Lib.hid hlg
  have HPB4 := Lib.hid ((hB4.block _ (HK.blk_lt HPB2.out)).trans HPB2.out)
  have HS4 := Lib.hid (HS2.out.up hB4)
  have HB4 := Lib.hid (below_then HB2.out hB4)
  clear p0 p1 p2 p3 p4 p5 p6 p7 hgd hGs hlg hB4
  by_cases hna0 : na = 0
  · subst hna0
    have hpn := pick_nil w4 ga gc (.int .u8 n1)
    have HPN := Lib.hid hpn
    clear hpn
    go_wp2_with (first
      | (go_at_call 27; (refine HPN.out.mono ?_; rintro e w5 ⟨rfl, hB5⟩; have HB5 := Lib.hid (below_then HB4.out hB5); clear hB5))
      | (go_at_call 14; (refine (haw _).mono ?_; rintro e w15 ⟨rfl, hB15⟩)))
    all_goals (
      go_ret
      exact ⟨rfl, below_then (HB5.out.trans ((Below.refl w.heap.size _).alloc HB5.out.size _)) hB15⟩)
  · obtain ⟨i, hi⟩ : ∃ i, i = n1 % na := ⟨_, rfl⟩
    have hin : i < na := by rw [hi]; exact Nat.mod_lt _ (by omega)
    obtain ⟨x, hx⟩ : ∃ x, gs[i]? = some x := ⟨_, List.getElem?_eq_getElem (by rw [HGL.out]; exact hin)⟩
    obtain ⟨g, cap, hv, c0, c1⟩ := goal_at HGS.out hx
    simp only [Value.slice.injEq] at hv
    obtain ⟨rfl, hv1, hv2⟩ := hv
    clear hv1 hv2
    have cp := HGS.out.2 x (List.mem_of_getElem? hx)
    have hxm : x.d ∈ goalsB L := by rw [← HGD.out]; exact List.mem_map.2 ⟨x, List.mem_of_getElem? hx, rfl⟩
    have hpl12 := (goalsB_mem hxm).2.2
    have hwb := fun (u : PT) (hu : measT u = false) => with_bad hxm hu
    have hab := at_beyond hxm
    rw [← HTB.out] at hwb hab
    obtain ⟨⟨pl, wt, TT⟩, ⟨pa, pn, pc⟩, xsv⟩ := x
    simp only [SL.v] at c0 c1 cp hwb hab hpl12
    have hgsn := HGS.out
    have hpk := pick_some w4 _ g na gc n1 i wt gs pa pn pc hn1 HGL.out.symm hna3 hgsn hi hin c0 c1
    have HPK := Lib.hid hpk
    have HCP := Lib.hid cp
    have HWB := Lib.hid hwb
    have HAB := Lib.hid hab
    clear hpk cp c0 c1 hx hwb hab hgsn hxm hi
    go_upto_region 6 with (go_at_call 27; (refine HPK.out.mono ?_; rintro e w40 ⟨rfl, hB40⟩))
    obtain ⟨w5, hw5⟩ : ∃ w5, w5 = w40.alloc (.cells #[.slice pa pn pc, .int .i64 wt] 39) := ⟨_, rfl⟩
    rw [← hw5]
    obtain ⟨GB, hGB⟩ : ∃ GB, GB = w40.heap.size := ⟨_, rfl⟩
    rw [← hGB]
    have hB45 : Below w4.heap.size w4 w5 := by rw [hw5]; exact hB40.alloc hB40.size _
    have hgb5 : w5.heap[GB]? = some (.cells #[.slice pa pn pc, .int .i64 wt] 39 (0, 0)) := by rw [hw5, hGB]; exact HK.blk_new _ _
    have HGB5 := Lib.hid hgb5
    have HPB5 := Lib.hid ((hB45.block _ (HK.blk_lt HPB4.out)).trans HPB4.out)
    have HS5 := Lib.hid (HS4.out.up hB45)
    have HB5 := Lib.hid (below_then HB4.out hB45)
    have HCP5 := Lib.hid (HCP.out.isI.below hB45)
    have HB45 := Lib.hid hB45
    obtain ⟨k, hk⟩ : ∃ k, k = n2 % 4 := ⟨_, rfl⟩
    have hk4 : k < 4 := by omega
    have hkI : (n2 : Int) % 4 = (k : Int) := by omega
    have hkN : n2 % 4 = k := hk.symm
    clear hB45 hgb5 hw5 hGB hB40 hk
    go_upto_block 0 with (go_at_call 25; (refine (HH.out _).mono ?_; rintro e w' ⟨rfl, rfl⟩))
    obtain ⟨w6, hw6⟩ : ∃ w6, w6 = ((w5.alloc (.cells #[.string ⟨#[63]⟩, .int .u8 0, .string ⟨#[]⟩, .slice none 0 0, .slice none 0 0, .int .i64 0, .slice none 0 0, .slice none 0 0] 30)).alloc (.cells #[.string ⟨#[63]⟩, .int .u8 0, .string ⟨#[]⟩, .slice none 0 0, .slice none 0 0, .int .i64 0, .slice none 0 0, .slice none 0 0] 30)).alloc (.cells #[.string ⟨#[63]⟩, .int .u8 0, .string ⟨#[]⟩, .slice none 0 0, .slice none 0 0, .int .i64 0, .slice (some ⟨w5.heap.size + 1, 0, none⟩) 1 1, .slice none 0 0] 30) := ⟨_, rfl⟩
    rw [← hw6]
    obtain ⟨B, hB⟩ : ∃ B, B = w5.heap.size + 1 + 1 := ⟨_, rfl⟩
    rw [← hB]
    have hB56 : Below w5.heap.size w5 w6 := by rw [hw6]; exact bl_al (bl_al (bl_al (Below.refl _ _)))
    have hbx6 : w6.heap[B]? = some (.cells #[.string ⟨#[63]⟩, .int .u8 0, .string ⟨#[]⟩, .slice none 0 0, .slice none 0 0, .int .i64 0, .slice (some ⟨w5.heap.size + 1, 0, none⟩) 1 1, .slice none 0 0] 30 (0, 0)) := by rw [hw6, hB]; exact blk_new2 _ _ _ _
    have hrw6 : w6.heap[w5.heap.size + 1]? = some (.cells #[.string ⟨#[63]⟩, .int .u8 0, .string ⟨#[]⟩, .slice none 0 0, .slice none 0 0, .int .i64 0, .slice none 0 0, .slice none 0 0] 30 (0, 0)) := by rw [hw6]; exact HK.blk_alloc (blk_new1 _ _ _) _
    have hz6 : w6.heap.size = B + 1 := by rw [hw6, hB]; simp
    have hw5B : w5.heap.size + 2 = B := by omega
    have HB56 := Lib.hid hB56
    have HBX6 := Lib.hid hbx6
    have HRW6 := Lib.hid hrw6
    have HZ6 := Lib.hid hz6
    have HW5B := Lib.hid hw5B
    clear hB56 hbx6 hrw6 hz6 hw5B hw6 hB
    go_cut [58] from 59 to 96 (fun v wx => SwR w5 B k wx)
    case first =>
      have hsb := fun W a n c => step_box W a n c
      simp only [boxR] at hsb
      have HSB := Lib.hid hsb
      clear hsb
      rcases (show k = 0 ∨ k = 1 ∨ k = 2 ∨ k = 3 by omega) with rfl | rfl | rfl | rfl
      · go_wp2_with (fail)
        go_meet
        case rel => exact ⟨holeP, ⟨some ⟨w5.heap.size + 1, 0, none⟩, 1, 1⟩, bad_of0, HBX6.out, pq_one (q := holeT) (s := SL.nil) HRW6.out ⟨by have := HZ6.out; have := HW5B.out; omega, by have := HW5B.out; omega⟩ (.nil _ _), HB56.out⟩
      · have hsn := HSB.out w6 none 0 0
        have HSN := Lib.hid hsn
        clear hsn
        go_upto_region 10 with (
          go_at_call 28
          refine HSN.out.mono ?_
          rintro e w7 ⟨rfl, hB7⟩
          have hbx7 := (hB7.block _ (HK.blk_lt HBX6.out)).trans HBX6.out
          have c0 : w7.cell? ⟨B, 0, none⟩ = some (.string ⟨#[63]⟩) := HK.blk_cell hbx7 0
          have c1 : w7.cell? ⟨B, 1, none⟩ = some (.int .u8 0) := HK.blk_cell hbx7 1
          have c2 : w7.cell? ⟨B, 2, none⟩ = some (.string ⟨#[]⟩) := HK.blk_cell hbx7 2
          have c3 : w7.cell? ⟨B, 3, none⟩ = some (.slice none 0 0) := HK.blk_cell hbx7 3
          have c4 : w7.cell? ⟨B, 4, none⟩ = some (.slice none 0 0) := HK.blk_cell hbx7 4
          have c5 : w7.cell? ⟨B, 5, none⟩ = some (.int .i64 0) := HK.blk_cell hbx7 5
          have c6 : w7.cell? ⟨B, 6, none⟩ = some (.slice (some ⟨w5.heap.size + 1, 0, none⟩) 1 1) := HK.blk_cell hbx7 6
          have c7 : w7.cell? ⟨B, 7, none⟩ = some (.slice none 0 0) := HK.blk_cell hbx7 7
          have cf := fun i => HK.blk_frozen hbx7 i
          have HB7 := Lib.hid hB7
          have HBX7 := Lib.hid hbx7
          clear hB7 hbx7)
        have hF8 := set8_frm w7 B (.string ⟨#[114]⟩) (.int .u8 0) (.string ⟨#[]⟩) (.slice none 0 0) (.slice none 0 0) (.int .i64 0) (.slice none 0 0) (.slice none 0 0)
        have hbx8 := set8 HBX7.out (.string ⟨#[114]⟩) (.int .u8 0) (.string ⟨#[]⟩) (.slice none 0 0) (.slice none 0 0) (.int .i64 0) (.slice none 0 0) (.slice none 0 0)
        have hB58 := (below_then HB56.out HB7.out).trans (hF8.below (below_then HB56.out HB7.out).size (fun b e => by have := HW5B.out; omega))
        obtain ⟨w8, hw8⟩ : ∃ w8, w8 = (((((((w7.setCell ⟨B, 0, none⟩ (.string ⟨#[114]⟩)).setCell ⟨B, 1, none⟩ (.int .u8 0)).setCell ⟨B, 2, none⟩ (.string ⟨#[]⟩)).setCell ⟨B, 3, none⟩ (.slice none 0 0)).setCell ⟨B, 4, none⟩ (.slice none 0 0)).setCell ⟨B, 5, none⟩ (.int .i64 0)).setCell ⟨B, 6, none⟩ (.slice none 0 0)).setCell ⟨B, 7, none⟩ (.slice none 0 0) := ⟨_, rfl⟩
        rw [← hw8] at hbx8 hB58 ⊢
        have hst8 := RowB.start (v := .bool true) hbx8
        obtain ⟨base, hbase⟩ : ∃ base, base = w8.heap.size := ⟨_, rfl⟩
        rw [← hbase] at hst8
        have HST8 := Lib.hid hst8
        have HB58 := Lib.hid hB58
        clear hF8 hbx8 hB58 hw8 hst8 hbase c0 c1 c2 c3 c4 c5 c6 c7 cf
        go_wp2_with (fail)
        go_loopw [62] (fun j wr => ∃ (m : Nat) (va : Option Addr) (vc : Nat) (xs : List (PT × SL)), m ≤ 9 ∧ j = .int .i64 m ∧ RowB B base ⟨va, m, vc⟩ xs wr ∧ xs.map (·.1) = List.replicate m holeT ∧ Below w5.heap.size w5 wr) (fun j _ => 9 - (intOf j).toNat)
        case atStart => exact ⟨0, none, 0, [], by omega, rfl, HST8.out, rfl, HB58.out⟩
        case round =>
          obtain ⟨m, va, vc, xs, hm, rfl, hR, hxs, hBr⟩ := hrel
          have hxl : xs.length = m := by simpa using congrArg List.length hxs
          have HR := Lib.hid hR
          have HXS := Lib.hid hxs
          have HBR := Lib.hid hBr
          have HXL := Lib.hid hxl
          have hbx := hR.box
          have hBr2 : B < wr.heap.size := HK.blk_lt hbx
          have a6 : wr.cell? ⟨B, 6, none⟩ = some (.slice va m vc) := HK.blk_cell hbx 6
          have a6' : ∀ o, (wr.alloc o).cell? ⟨B, 6, none⟩ = some (.slice va m vc) := fun o => HK.blk_cell (HK.blk_alloc hbx o) 6
          have a6'' : ∀ o o2, ((wr.alloc o).alloc o2).cell? ⟨B, 6, none⟩ = some (.slice va m vc) := fun o o2 => HK.blk_cell (HK.blk_alloc (HK.blk_alloc hbx o) o2) 6
          have hro := hR.row
          rw [hxl] at hro
          simp only [SL.v] at hro
          have hne : (Value.slice va m vc).ownBlock ≠ some B := fun e => by have := (hro.lt _ e).1; have := hR.lt; omega
          have HRO := Lib.hid hro
          have HNE := Lib.hid hne
          have HX := Lib.hid hbx
          clear hR hxs hBr hxl hbx hro hne
          by_cases h1 : m < 9
          · have b8 : (m : Int) < 9 := by omega
            go_upto_region 12 with (fail)
            go_region_law
              ((first
                | (refine HK.step_app1 (by rfl) elem30 _ _ (by rfl) (.slice va m vc) m (flatP xs) (by rfl) (row_mono ((HRO.out.alloc _).alloc _) (Nat.zero_le _)) (wr.heap.size + 1) 1 #[.string ⟨#[63]⟩, .int .u8 0, .string ⟨#[]⟩, .slice none 0 0, .slice none 0 0, .int .i64 0, .slice none 0 0, .slice none 0 0] (by rfl) (blk_new1 _ _ _) (by rfl) (by simp [Value.oneCell']) (by simp only [maxLen]; omega) (by omega) ?_
                   intro gg cap w9 hown9 hgrow hat hlt
                   have hT9 := HK.blk_grown2 hgrow (HK.blk_alloc (HK.blk_alloc HX.out _) _) (fun e => HNE.out e.symm)
                   have hc9 : w9.cell? ⟨B, 6, none⟩ = some (.slice va m vc) := HK.blk_cell hT9 6
                   have hf9 := HK.blk_frozen hT9 6
                   have HOW := Lib.hid hown9
                   have HGR := Lib.hid hgrow
                   have HAT9 := Lib.hid hat
                   clear hT9 hown9 hgrow hat)
                | (go_simp
                   go_at_call 25
                   refine (HH.out _).mono ?_
                   rintro e w' ⟨rfl, rfl⟩)))
            all_goals (
              go_wp2_with (fail)
              go_roundw
              case rel =>
                obtain ⟨r1, r2⟩ := HR.out.next (x := (holeT, SL.nil)) (by (repeat (first | (with_reducible exact Below.refl _ _) | (with_reducible apply bl_al) | (with_reducible apply bl_dr))); done) (.nil _ _) HOW.out (by have := HXL.out; omega) HGR.out HAT9.out
                exact ⟨m + 1, some ⟨gg, 0, none⟩, cap, xs ++ [(holeT, SL.nil)], by omega, by go_num, r1, by rw [List.map_append, HXS.out, List.replicate_succ']; rfl, HBR.out.trans (r2 _ (by have := HW5B.out; omega))⟩
              case measure => simp [intOf]; omega)
          · obtain rfl : m = 9 := by omega
            go_wp2_with (fail)
            go_meet
            case rel => exact HR.out.done (by rw [HXS.out]; exact bad_of1) HBR.out (by have := HXL.out; omega)
      · go_upto_region 16 with (
          go_at_call 25
          refine (HH.out _).mono ?_
          rintro e w7 ⟨rfl, rfl⟩
          have hbx7 := HK.blk_alloc HBX6.out (.cells #[.string ⟨#[63]⟩, .int .u8 0, .string ⟨#[]⟩, .slice none 0 0, .slice none 0 0, .int .i64 0, .slice none 0 0, .slice none 0 0] 30)
          have c0 : (w6.alloc (.cells #[.string ⟨#[63]⟩, .int .u8 0, .string ⟨#[]⟩, .slice none 0 0, .slice none 0 0, .int .i64 0, .slice none 0 0, .slice none 0 0] 30)).cell? ⟨B, 0, none⟩ = some (.string ⟨#[63]⟩) := HK.blk_cell hbx7 0
          have c1 : (w6.alloc (.cells #[.string ⟨#[63]⟩, .int .u8 0, .string ⟨#[]⟩, .slice none 0 0, .slice none 0 0, .int .i64 0, .slice none 0 0, .slice none 0 0] 30)).cell? ⟨B, 1, none⟩ = some (.int .u8 0) := HK.blk_cell hbx7 1
          have c2 : (w6.alloc (.cells #[.string ⟨#[63]⟩, .int .u8 0, .string ⟨#[]⟩, .slice none 0 0, .slice none 0 0, .int .i64 0, .slice none 0 0, .slice none 0 0] 30)).cell? ⟨B, 2, none⟩ = some (.string ⟨#[]⟩) := HK.blk_cell hbx7 2
          have c3 : (w6.alloc (.cells #[.string ⟨#[63]⟩, .int .u8 0, .string ⟨#[]⟩, .slice none 0 0, .slice none 0 0, .int .i64 0, .slice none 0 0, .slice none 0 0] 30)).cell? ⟨B, 3, none⟩ = some (.slice none 0 0) := HK.blk_cell hbx7 3
          have c4 : (w6.alloc (.cells #[.string ⟨#[63]⟩, .int .u8 0, .string ⟨#[]⟩, .slice none 0 0, .slice none 0 0, .int .i64 0, .slice none 0 0, .slice none 0 0] 30)).cell? ⟨B, 4, none⟩ = some (.slice none 0 0) := HK.blk_cell hbx7 4
          have c5 : (w6.alloc (.cells #[.string ⟨#[63]⟩, .int .u8 0, .string ⟨#[]⟩, .slice none 0 0, .slice none 0 0, .int .i64 0, .slice none 0 0, .slice none 0 0] 30)).cell? ⟨B, 5, none⟩ = some (.int .i64 0) := HK.blk_cell hbx7 5
          have c6 : (w6.alloc (.cells #[.string ⟨#[63]⟩, .int .u8 0, .string ⟨#[]⟩, .slice none 0 0, .slice none 0 0, .int .i64 0, .slice none 0 0, .slice none 0 0] 30)).cell? ⟨B, 6, none⟩ = some (.slice (some ⟨w5.heap.size + 1, 0, none⟩) 1 1) := HK.blk_cell hbx7 6
          have c7 : (w6.alloc (.cells #[.string ⟨#[63]⟩, .int .u8 0, .string ⟨#[]⟩, .slice none 0 0, .slice none 0 0, .int .i64 0, .slice none 0 0, .slice none 0 0] 30)).cell? ⟨B, 7, none⟩ = some (.slice none 0 0) := HK.blk_cell hbx7 7
          have cf := fun i => HK.blk_frozen hbx7 i
          have HBX7 := Lib.hid hbx7
          clear hbx7)
        have hF8 := set8_frm (w6.alloc (.cells #[.string ⟨#[63]⟩, .int .u8 0, .string ⟨#[]⟩, .slice none 0 0, .slice none 0 0, .int .i64 0, .slice none 0 0, .slice none 0 0] 30)) B (.string ⟨#[63]⟩) (.int .u8 0) (.string ⟨#[]⟩) (.slice none 0 0) (.slice none 0 0) (.int .i64 0) (.slice none 0 0) (.slice none 0 0)
        have hbx8 := set8 HBX7.out (.string ⟨#[63]⟩) (.int .u8 0) (.string ⟨#[]⟩) (.slice none 0 0) (.slice none 0 0) (.int .i64 0) (.slice none 0 0) (.slice none 0 0)
        have hB57 : Below w5.heap.size w5 (w6.alloc (.cells #[.string ⟨#[63]⟩, .int .u8 0, .string ⟨#[]⟩, .slice none 0 0, .slice none 0 0, .int .i64 0, .slice none 0 0, .slice none 0 0] 30)) := bl_al HB56.out
        have hB58 := hB57.trans (hF8.below hB57.size (fun b e => by have := HW5B.out; omega))
        have hn8 : NestR w5 B 0 _ := ⟨SL.nil, hbx8, .nil _ _, hB58⟩
        have HN8 := Lib.hid hn8
        clear hF8 hbx8 hB57 hB58 hn8 c0 c1 c2 c3 c4 c5 c6 c7 cf
        go_wp2_with (fail)
        go_loopw [74] (fun j wr => ∃ m : Nat, m ≤ 41 ∧ j = .int .i64 m ∧ NestR w5 B m wr) (fun j _ => 41 - (intOf j).toNat)
        case atStart => exact ⟨0, by omega, rfl, HN8.out⟩
        case round =>
          obtain ⟨m, hm, rfl, hN⟩ := hrel
          by_cases h1 : m < 41
          · have b8 : (m : Int) < 41 := by omega
            obtain ⟨sq, hbx, hq, hBr⟩ := hN
            obtain ⟨q, hqe⟩ : ∃ q, q = nestT m := ⟨_, rfl⟩
            rw [← hqe] at hbx hq
            have hBr2 : B < wr.heap.size := HK.blk_lt hbx
            have HQE := Lib.hid hqe
            clear hqe
            obtain ⟨ur, ⟨uo, un, ⟨ea, en, ec⟩, ⟨ia, i2, ic⟩, ul, ⟨ka, kn, kc⟩⟩, us⟩ := q
            obtain ⟨ta, tn, tc⟩ := sq
            simp only [PT.arr, PT.rule, PT.o, PT.subs, SL.v] at hbx hq
            have x0 : wr.cell? ⟨B, 0, none⟩ = some (.string ur) := HK.blk_cell hbx 0
            have x1 : wr.cell? ⟨B, 1, none⟩ = some (.int .u8 uo) := HK.blk_cell hbx 1
            have x2 : wr.cell? ⟨B, 2, none⟩ = some (.string un) := HK.blk_cell hbx 2
            have x3 : wr.cell? ⟨B, 3, none⟩ = some (.slice ea en ec) := HK.blk_cell hbx 3
            have x4 : wr.cell? ⟨B, 4, none⟩ = some (.slice ia i2 ic) := HK.blk_cell hbx 4
            have x5 : wr.cell? ⟨B, 5, none⟩ = some (.int .i64 ul) := HK.blk_cell hbx 5
            have x6 : wr.cell? ⟨B, 6, none⟩ = some (.slice ta tn tc) := HK.blk_cell hbx 6
            have x7 : wr.cell? ⟨B, 7, none⟩ = some (.slice ka kn kc) := HK.blk_cell hbx 7
            have hs1 := HSB.out (wr.alloc (.cells #[.string ur, .int .u8 uo, .string un, .slice ea en ec, .slice ia i2 ic, .int .i64 ul, .slice ta tn tc, .slice ka kn kc] 30)) (some ⟨wr.heap.size, 0, none⟩) 1 1
            have HS1 := Lib.hid hs1
            have HBX := Lib.hid hbx
            have HQ := Lib.hid hq
            have HBR := Lib.hid hBr
            clear hbx hq hBr hs1
            go_upto_region 19 with (
              go_at_call 28
              refine HS1.out.mono ?_
              rintro e w8 ⟨rfl, hB8⟩
              have hbx8 := (hB8.block B (by simp; omega)).trans (HK.blk_alloc HBX.out _)
              have c0 : w8.cell? ⟨B, 0, none⟩ = some (.string ur) := HK.blk_cell hbx8 0
              have c1 : w8.cell? ⟨B, 1, none⟩ = some (.int .u8 uo) := HK.blk_cell hbx8 1
              have c2 : w8.cell? ⟨B, 2, none⟩ = some (.string un) := HK.blk_cell hbx8 2
              have c3 : w8.cell? ⟨B, 3, none⟩ = some (.slice ea en ec) := HK.blk_cell hbx8 3
              have c4 : w8.cell? ⟨B, 4, none⟩ = some (.slice ia i2 ic) := HK.blk_cell hbx8 4
              have c5 : w8.cell? ⟨B, 5, none⟩ = some (.int .i64 ul) := HK.blk_cell hbx8 5
              have c6 : w8.cell? ⟨B, 6, none⟩ = some (.slice ta tn tc) := HK.blk_cell hbx8 6
              have c7 : w8.cell? ⟨B, 7, none⟩ = some (.slice ka kn kc) := HK.blk_cell hbx8 7
              have cf := fun i => HK.blk_frozen hbx8 i
              have HB8 := Lib.hid hB8
              have HBX8 := Lib.hid hbx8
              clear hB8 hbx8)
            have hR8 := (HB8.out.block wr.heap.size (by simp)).trans (HK.blk_new wr _)
            have hB88 := below_then (bl_al (Below.refl _ wr)) HB8.out
            have hn := NestR.next (R := wr.heap.size) (sq := ⟨ta, tn, tc⟩) (by have := HW5B.out; omega) HQE.out hBr2 HQ.out HBR.out hB88 hR8 (Nat.le_refl _) HBX8.out rfl
            have HN := Lib.hid hn
            clear hR8 hB88 hn x0 x1 x2 x3 x4 x5 x6 x7 c0 c1 c2 c3 c4 c5 c6 c7 cf
            go_wp2_with (fail)
            go_roundw
            case rel => exact ⟨m + 1, by omega, by go_num, HN.out⟩
            case measure => simp [intOf]; omega
          · obtain rfl : m = 41 := by omega
            have HN := Lib.hid hN
            clear hN
            go_wp2_with (fail)
            go_meet
            case rel => exact HN.out.done
      · have hsn := HSB.out w6 none 0 0
        have HSN := Lib.hid hsn
        clear hsn
        go_upto_region 22 with (
          go_at_call 28
          refine HSN.out.mono ?_
          rintro e w7 ⟨rfl, hB7⟩
          have hbx7 := (hB7.block _ (HK.blk_lt HBX6.out)).trans HBX6.out
          have c0 : w7.cell? ⟨B, 0, none⟩ = some (.string ⟨#[63]⟩) := HK.blk_cell hbx7 0
          have c1 : w7.cell? ⟨B, 1, none⟩ = some (.int .u8 0) := HK.blk_cell hbx7 1
          have c2 : w7.cell? ⟨B, 2, none⟩ = some (.string ⟨#[]⟩) := HK.blk_cell hbx7 2
          have c3 : w7.cell? ⟨B, 3, none⟩ = some (.slice none 0 0) := HK.blk_cell hbx7 3
          have c4 : w7.cell? ⟨B, 4, none⟩ = some (.slice none 0 0) := HK.blk_cell hbx7 4
          have c5 : w7.cell? ⟨B, 5, none⟩ = some (.int .i64 0) := HK.blk_cell hbx7 5
          have c6 : w7.cell? ⟨B, 6, none⟩ = some (.slice (some ⟨w5.heap.size + 1, 0, none⟩) 1 1) := HK.blk_cell hbx7 6
          have c7 : w7.cell? ⟨B, 7, none⟩ = some (.slice none 0 0) := HK.blk_cell hbx7 7
          have cf := fun i => HK.blk_frozen hbx7 i
          have HB7 := Lib.hid hB7
          have HBX7 := Lib.hid hbx7
          clear hB7 hbx7)
        have hF8 := set8_frm w7 B (.string ⟨#[114]⟩) (.int .u8 0) (.string ⟨#[]⟩) (.slice none 0 0) (.slice none 0 0) (.int .i64 0) (.slice none 0 0) (.slice none 0 0)
        have hbx8 := set8 HBX7.out (.string ⟨#[114]⟩) (.int .u8 0) (.string ⟨#[]⟩) (.slice none 0 0) (.slice none 0 0) (.int .i64 0) (.slice none 0 0) (.slice none 0 0)
        have hB58 := (below_then HB56.out HB7.out).trans (hF8.below (below_then HB56.out HB7.out).size (fun b e => by have := HW5B.out; omega))
        obtain ⟨w8, hw8⟩ : ∃ w8, w8 = (((((((w7.setCell ⟨B, 0, none⟩ (.string ⟨#[114]⟩)).setCell ⟨B, 1, none⟩ (.int .u8 0)).setCell ⟨B, 2, none⟩ (.string ⟨#[]⟩)).setCell ⟨B, 3, none⟩ (.slice none 0 0)).setCell ⟨B, 4, none⟩ (.slice none 0 0)).setCell ⟨B, 5, none⟩ (.int .i64 0)).setCell ⟨B, 6, none⟩ (.slice none 0 0)).setCell ⟨B, 7, none⟩ (.slice none 0 0) := ⟨_, rfl⟩
        rw [← hw8] at hbx8 hB58 ⊢
        have hst8 := RowB.start (v := .bool true) hbx8
        obtain ⟨base, hbase⟩ : ∃ base, base = w8.heap.size := ⟨_, rfl⟩
        rw [← hbase] at hst8
        have HST8 := Lib.hid hst8
        have HB58 := Lib.hid hB58
        clear hF8 hbx8 hB58 hw8 hst8 hbase c0 c1 c2 c3 c4 c5 c6 c7 cf
        go_wp2_with (fail)
        go_loopw [83] (fun j wr => ∃ (m : Nat) (va : Option Addr) (vc : Nat) (xs : List (PT × SL)), m ≤ 8 ∧ j = .int .i64 m ∧ RowB B base ⟨va, m, vc⟩ xs wr ∧ xs.map (·.1) = List.replicate m duoT ∧ Below w5.heap.size w5 wr) (fun j _ => 8 - (intOf j).toNat)
        case atStart => exact ⟨0, none, 0, [], by omega, rfl, HST8.out, rfl, HB58.out⟩
        case round =>
          obtain ⟨m, va, vc, xs, hm, rfl, hR, hxs, hBr⟩ := hrel
          have hxl : xs.length = m := by simpa using congrArg List.length hxs
          have HR := Lib.hid hR
          have HXS0 := Lib.hid hxs
          have HBR := Lib.hid hBr
          have HXL := Lib.hid hxl
          have hbx := hR.box
          have hBr2 : B < wr.heap.size := HK.blk_lt hbx
          have a6 : wr.cell? ⟨B, 6, none⟩ = some (.slice va m vc) := HK.blk_cell hbx 6
          have a6' : ∀ o, (wr.alloc o).cell? ⟨B, 6, none⟩ = some (.slice va m vc) := fun o => HK.blk_cell (HK.blk_alloc hbx o) 6
          have a6'' : ∀ o o2, ((wr.alloc o).alloc o2).cell? ⟨B, 6, none⟩ = some (.slice va m vc) := fun o o2 => HK.blk_cell (HK.blk_alloc (HK.blk_alloc hbx o) o2) 6
          have hro := hR.row
          rw [hxl] at hro
          simp only [SL.v] at hro
          have hne : (Value.slice va m vc).ownBlock ≠ some B := fun e => by have := (hro.lt _ e).1; have := hR.lt; omega
          have HRO := Lib.hid hro
          have HNE := Lib.hid hne
          have HX := Lib.hid hbx
          clear hR hxs hBr hxl hbx hro hne
          by_cases h1 : m < 8
          · have b8 : (m : Int) < 8 := by omega
            have hful := fun W => full_call W
            have HF := Lib.hid hful
            clear hful
            go_upto_region 24 with (fail)
            go_region_law
              ((first
                | (refine HK.step_app1 (by rfl) elem30 _ _ (by rfl) (.slice va m vc) m (flatP xs) (by rfl) (row_mono (HROS.out.alloc _) (Nat.zero_le _)) ws.heap.size 1 #[.string ⟨#[114]⟩, .int .u8 0, .string ⟨#[]⟩, .slice none 0 0, .slice none 0 0, .int .i64 0, .slice (some ⟨wg2.heap.size, 0, none⟩) 2 2, .slice none 0 0] (by rfl) (HK.blk_new _ _) (by rfl) (by simp [Value.oneCell']) (by simp only [maxLen]; omega) (by omega) ?_
                   intro gg cap w9 hown9 hgrow hat hlt
                   have hT9 := HK.blk_grown2 hgrow (HK.blk_alloc HXS.out _) (fun e => HNE.out e.symm)
                   have hc9 : w9.cell? ⟨B, 6, none⟩ = some (.slice va m vc) := HK.blk_cell hT9 6
                   have hf9 := HK.blk_frozen hT9 6
                   have HOW := Lib.hid hown9
                   have HGR := Lib.hid hgrow
                   have HAT9 := Lib.hid hat
                   clear hT9 hown9 hgrow hat)
                | (go_simp
                   first
                   | (go_at_call 38
                      first
                      | (with_reducible refine (HF.out wr).mono ?_
                         rintro e wf ⟨gf, cf, rfl, hbf, hBf0⟩
                         have hBf : Below wr.heap.size wr wf := hBf0
                         have hf6 : wf.cell? ⟨B, 6, none⟩ = some (.slice va m vc) := HK.blk_cell (((hBf).block _ hBr2).trans HX.out) 6
                         have hbu := built_full wf gf cf hbf
                         simp only [boxR] at hbu
                         have HBU := Lib.hid hbu
                         have HBF := Lib.hid hBf
                         clear hbf hBf hBf0 hbu)
                      | (with_reducible refine (HF.out wr.drew).mono ?_
                         rintro e wf ⟨gf, cf, rfl, hbf, hBf0⟩
                         have hBf : Below wr.heap.size wr wf := below_then (bl_d wr) hBf0
                         have hf6 : wf.cell? ⟨B, 6, none⟩ = some (.slice va m vc) := HK.blk_cell (((hBf).block _ hBr2).trans HX.out) 6
                         have hbu := built_full wf gf cf hbf
                         simp only [boxR] at hbu
                         have HBU := Lib.hid hbu
                         have HBF := Lib.hid hBf
                         clear hbf hBf hBf0 hbu)
                      | (with_reducible refine (HF.out wg).mono ?_
                         rintro e wf2 ⟨gf2, cf2, rfl, hbf2, hBf2⟩
                         have hB02 := below_then HBG.out hBf2
                         have hf26 : wf2.cell? ⟨B, 6, none⟩ = some (.slice va m vc) := HK.blk_cell (((hB02).block _ hBr2).trans HX.out) 6
                         have hbu2 := built_full wf2 gf2 cf2 hbf2
                         simp only [boxR] at hbu2
                         have HBU2 := Lib.hid hbu2
                         have HBF2 := Lib.hid hB02
                         have HBF3 := Lib.hid hBf2
                         clear hbf2 hBf2 hB02 hbu2))
                   | (go_at_call 10
                      first
                      | (with_reducible refine HBU2.out.mono ?_
                         rintro e wg2 ⟨da, dn, dc, rfl, hq2, hBg2⟩
                         have hB2 := below_then HBF2.out hBg2
                         have hg26 : wg2.cell? ⟨B, 6, none⟩ = some (.slice va m vc) := HK.blk_cell (((hB2).block _ hBr2).trans HX.out) 6
                         have hg26' : ∀ o, (wg2.alloc o).cell? ⟨B, 6, none⟩ = some (.slice va m vc) := fun o => HK.blk_cell (HK.blk_alloc (((hB2).block _ hBr2).trans HX.out) o) 6
                         have hs3 := HSB.out (wg2.alloc (.cells #[.string ⟨#[114]⟩, .int .u8 0, .string ⟨#[]⟩, .slice none 0 0, .slice none 0 0, .int .i64 0, .slice ba bn bc, .slice none 0 0, .string ⟨#[114]⟩, .int .u8 0, .string ⟨#[]⟩, .slice none 0 0, .slice none 0 0, .int .i64 0, .slice da dn dc, .slice none 0 0] 30)) (some ⟨wg2.heap.size, 0, none⟩) 2 2
                         have HS3 := Lib.hid hs3
                         have HQ2 := Lib.hid hq2
                         have HBG2 := Lib.hid hB2
                         have HBG3 := Lib.hid hBg2
                         clear hq2 hBg2 hB2 hs3)
                      | (with_reducible refine HBU.out.mono ?_
                         rintro e wg ⟨ba, bn, bc, rfl, hq1, hBg⟩
                         have hB1 := below_then HBF.out hBg
                         have hg6 : wg.cell? ⟨B, 6, none⟩ = some (.slice va m vc) := HK.blk_cell (((hB1).block _ hBr2).trans HX.out) 6
                         have HQ1 := Lib.hid hq1
                         have HBG := Lib.hid hB1
                         have HBG1 := Lib.hid hBg
                         clear hq1 hBg hB1))
                   | (go_at_call 28
                      with_reducible refine HS3.out.mono ?_
                      rintro e ws ⟨rfl, hBs⟩
                      have hBs2 : Below wr.heap.size wr ws := below_then (bl_al HBG2.out) hBs
                      have hs6 : ws.cell? ⟨B, 6, none⟩ = some (.slice va m vc) := HK.blk_cell (((hBs2).block _ hBr2).trans HX.out) 6
                      have hs6' : ∀ o, (ws.alloc o).cell? ⟨B, 6, none⟩ = some (.slice va m vc) := fun o => HK.blk_cell (HK.blk_alloc (((hBs2).block _ hBr2).trans HX.out) o) 6
                      have hR2 := (hBs.block wg2.heap.size (by simp)).trans (HK.blk_new wg2 _)
                      have hduo := duo_pq HBF.out HQ1.out HBG1.out HBF3.out HQ2.out HBG3.out hBs hR2
                      have hros := own_below HRO.out hBs2
                      have hxs := (hBs2.block _ hBr2).trans HX.out
                      have HXS := Lib.hid hxs
                      have HROS := Lib.hid hros
                      have HDUO := Lib.hid hduo
                      have HBS := Lib.hid hBs2
                      clear hBs hBs2 hR2 hduo hros hxs))))
            all_goals (
              go_wp2_with (fail)
              go_roundw
              case rel =>
                obtain ⟨r1, r2⟩ := HR.out.next (x := (duoT, ⟨some ⟨wg2.heap.size, 0, none⟩, 2, 2⟩)) (by repeat (first | exact HBS.out | (with_reducible apply bl_al) | (with_reducible apply bl_dr))) (HDUO.out.turn fun b hb => ⟨⟨hb.1, by have := hb.2; first | (simp; omega) | (show _ < (ws.alloc _).heap.size; simp; omega)⟩, Below.heap_alloc ws _ b hb.2⟩) HOW.out (by have := HXL.out; omega) HGR.out HAT9.out
                exact ⟨m + 1, some ⟨gg, 0, none⟩, cap, xs ++ [(duoT, ⟨some ⟨wg2.heap.size, 0, none⟩, 2, 2⟩)], by omega, by go_num, r1, by rw [List.map_append, HXS0.out, List.replicate_succ']; rfl, HBR.out.trans (r2 _ (by have := HW5B.out; omega))⟩
              case measure => simp [intOf]; omega)
          · obtain rfl : m = 8 := by omega
            go_wp2_with (fail)
            go_meet
            case rel => exact HR.out.done (by rw [HXS0.out]; exact bad_of3) HBR.out (by have := HXL.out; omega)
    case rest =>
      obtain ⟨bd, sq, ⟨hbad, hbpl, hbsz, hbwh⟩, hbx, hq, hBa⟩ := hcut
      obtain ⟨wa, rfl⟩ : ∃ wa : World, wa = wc := ⟨_, rfl⟩
      have hpa := (hBa.block _ (HK.blk_lt HPB5.out)).trans HPB5.out
      have hga := (hBa.block _ (HK.blk_lt HGB5.out)).trans HGB5.out
      have hsa := HS5.out.up hBa
      have hia := HCP5.out.below hBa
      have hwi := HWI.out wa ⟨sa, sn, sc⟩ sq ⟨pa, pn, pc⟩ bd (natI pl) hsa (hq.ps (n0 := wa.heap.size) fun b hb => hb.1) hia (by simp only [natI, List.length_map]; omega) (by omega) hbpl
      simp only [HWB.out bd hbad] at hwi
      have hpsb := hq.ps (n0 := wa.heap.size) fun b hb => hb.1
      have hcpa := HCP.out.same (W' := wa) (fun kk hkk => by
        have h1 := HCP.out.lt hkk
        exact ((below_then HB45.out hBa).block kk h1))
      obtain ⟨ur, ⟨uo, un, ⟨ea, en, ec⟩, ⟨ia, i2, ic⟩, ul, ⟨ka, kn, kc⟩⟩, us⟩ := bd
      obtain ⟨ta, tn, tc⟩ := sq
      simp only [PT.arr, PT.rule, PT.o, PT.subs, SL.v, zeroT, PO.nil, SL.nil] at hwi hbx hpsb
      have HW := Lib.hid hwi
      have HBAD := Lib.hid hbad
      have HBPL := Lib.hid hbpl
      have HBSZ := Lib.hid hbsz
      have HBWH := Lib.hid hbwh
      have HBXA := Lib.hid hbx
      have HPSB := Lib.hid hpsb
      have HPA := Lib.hid hpa
      have HGA := Lib.hid hga
      have HSA := Lib.hid hsa
      have HCPA := Lib.hid hcpa
      have HBWA := Lib.hid (below_then HB5.out hBa)
      have g0 : wa.cell? ⟨GB, 0, none⟩ = some (.slice pa pn pc) := HK.blk_cell hga 0
      have p0 : wa.cell? ⟨P, 0, none⟩ = some (.string rule) := HK.blk_cell hpa 0
      have p1 : wa.cell? ⟨P, 1, none⟩ = some (.int .u8 op) := HK.blk_cell hpa 1
      have p2 : wa.cell? ⟨P, 2, none⟩ = some (.string name) := HK.blk_cell hpa 2
      have p3 : wa.cell? ⟨P, 3, none⟩ = some (.slice aa an ac) := HK.blk_cell hpa 3
      have p4 : wa.cell? ⟨P, 4, none⟩ = some (.slice fa fn fc) := HK.blk_cell hpa 4
      have p5 : wa.cell? ⟨P, 5, none⟩ = some (.int .i64 label) := HK.blk_cell hpa 5
      have p6 : wa.cell? ⟨P, 6, none⟩ = some (.slice sa sn sc) := HK.blk_cell hpa 6
      have p7 : wa.cell? ⟨P, 7, none⟩ = some (.slice ma mn mc) := HK.blk_cell hpa 7
      have x0 : wa.cell? ⟨B, 0, none⟩ = some (.string ur) := HK.blk_cell hbx 0
      have x1 : wa.cell? ⟨B, 1, none⟩ = some (.int .u8 uo) := HK.blk_cell hbx 1
      have x2 : wa.cell? ⟨B, 2, none⟩ = some (.string un) := HK.blk_cell hbx 2
      have x3 : wa.cell? ⟨B, 3, none⟩ = some (.slice ea en ec) := HK.blk_cell hbx 3
      have x4 : wa.cell? ⟨B, 4, none⟩ = some (.slice ia i2 ic) := HK.blk_cell hbx 4
      have x5 : wa.cell? ⟨B, 5, none⟩ = some (.int .i64 ul) := HK.blk_cell hbx 5
      have x6 : wa.cell? ⟨B, 6, none⟩ = some (.slice ta tn tc) := HK.blk_cell hbx 6
      have x7 : wa.cell? ⟨B, 7, none⟩ = some (.slice ka kn kc) := HK.blk_cell hbx 7
      clear hwi hbad hbpl hbsz hbwh hbx hpsb hpa hga hsa hcpa hBa hia hq
      go_upto_region 28 with (
        go_at_call 24
        refine HW.out.mono ?_
        rintro e wb ⟨⟨za, zn, zc⟩, rfl, hzq, hBb⟩
        have hbxb := (hBb.block _ (HK.blk_lt HBXA.out)).trans HBXA.out
        have y0 : ∀ o, (wb.alloc o).cell? ⟨B, 0, none⟩ = some (.string ur) := fun o => HK.blk_cell (HK.blk_alloc hbxb o) 0
        have y1 : ∀ o, (wb.alloc o).cell? ⟨B, 1, none⟩ = some (.int .u8 uo) := fun o => HK.blk_cell (HK.blk_alloc hbxb o) 1
        have y2 : ∀ o, (wb.alloc o).cell? ⟨B, 2, none⟩ = some (.string un) := fun o => HK.blk_cell (HK.blk_alloc hbxb o) 2
        have y3 : ∀ o, (wb.alloc o).cell? ⟨B, 3, none⟩ = some (.slice ea en ec) := fun o => HK.blk_cell (HK.blk_alloc hbxb o) 3
        have y4 : ∀ o, (wb.alloc o).cell? ⟨B, 4, none⟩ = some (.slice ia i2 ic) := fun o => HK.blk_cell (HK.blk_alloc hbxb o) 4
        have y5 : ∀ o, (wb.alloc o).cell? ⟨B, 5, none⟩ = some (.int .i64 ul) := fun o => HK.blk_cell (HK.blk_alloc hbxb o) 5
        have y6 : ∀ o, (wb.alloc o).cell? ⟨B, 6, none⟩ = some (.slice ta tn tc) := fun o => HK.blk_cell (HK.blk_alloc hbxb o) 6
        have y7 : ∀ o, (wb.alloc o).cell? ⟨B, 7, none⟩ = some (.slice ka kn kc) := fun o => HK.blk_cell (HK.blk_alloc hbxb o) 7
        have HBB := Lib.hid hBb
        clear hzq hBb hbxb)
      obtain ⟨wv, hwv⟩ : ∃ wv, wv = (wb.alloc (.cells #[.string ⟨#[]⟩, .int .u8 0, .string ⟨#[]⟩, .slice none 0 0, .slice none 0 0, .int .i64 0, .slice za zn zc, .slice none 0 0] 30)).alloc (.cells #[.string ur, .int .u8 uo, .string un, .slice ea en ec, .slice ia i2 ic, .int .i64 ul, .slice ta tn tc, .slice ka kn kc] 30) := ⟨_, rfl⟩
      rw [← hwv]
      obtain ⟨V, hV⟩ : ∃ V, V = wb.heap.size + 1 := ⟨_, rfl⟩
      rw [← hV]
      have hBv : Below wa.heap.size wa wv := by rw [hwv]; exact bl_al (bl_al HBB.out)
      have hvb : wv.heap[V]? = some (.cells #[.string ur, .int .u8 uo, .string un, .slice ea en ec, .slice ia i2 ic, .int .i64 ul, .slice ta tn tc, .slice ka kn kc] 30 (0, 0)) := by rw [hwv, hV]; exact blk_new1 _ _ _
      have hVa : wa.heap.size ≤ V := by have := HBB.out.size; omega
      have HBV := Lib.hid hBv
      have HVB := Lib.hid hvb
      have hsb := fun W a n c => step_box W a n c
      simp only [boxR] at hsb
      have HSB := Lib.hid hsb
      clear hsb hBv hvb hwv hV p0 p1 p2 p3 p4 p5 p6 p7 x0 x1 x2 x3 x4 x5 x6 x7 y0 y1 y2 y3 y4 y5 y6 y7 g0
      obtain ⟨b3, hb3⟩ : ∃ b3 : Bool, b3 = decide (k = 3) := ⟨_, rfl⟩
      have e1 : ((k : Int) == 3) = b3 := by
        rw [hb3]
        by_cases h : k = 3
        · subst h; rfl
        · have h2 : ¬ (k : Int) = 3 := by omega
          simp [h, h2]
      have e2 : decide ((k : Int) = 3) = b3 := by rw [← e1]; rfl
      have HB3 := Lib.hid hb3
      clear hb3
      go_upto_if 108 with (fail)
      go_cut [107, 108] from 109 to 112 (fun u v wx => WhR wa V wx)
      case first =>
        clear e1 e2
        cases b3 with
        | true =>
          have hk3 : k = 3 := by simpa using HB3.out.symm
          have HK3 := Lib.hid hk3
          clear hk3
          have hbxv := (HBV.out.block _ (HK.blk_lt HBXA.out)).trans HBXA.out
          have hs2 := HSB.out (wv.alloc (.cells #[.string ur, .int .u8 uo, .string un, .slice ea en ec, .slice ia i2 ic, .int .i64 ul, .slice ta tn tc, .slice ka kn kc, .string ur, .int .u8 uo, .string un, .slice ea en ec, .slice ia i2 ic, .int .i64 ul, .slice ta tn tc, .slice ka kn kc] 30)) (some ⟨wv.heap.size, 0, none⟩) 2 2
          have HS2 := Lib.hid hs2
          have hVv := HK.blk_lt HVB.out
          have x0 : wv.cell? ⟨B, 0, none⟩ = some (.string ur) := HK.blk_cell hbxv 0
          have x1 : wv.cell? ⟨B, 1, none⟩ = some (.int .u8 uo) := HK.blk_cell hbxv 1
          have x2 : wv.cell? ⟨B, 2, none⟩ = some (.string un) := HK.blk_cell hbxv 2
          have x3 : wv.cell? ⟨B, 3, none⟩ = some (.slice ea en ec) := HK.blk_cell hbxv 3
          have x4 : wv.cell? ⟨B, 4, none⟩ = some (.slice ia i2 ic) := HK.blk_cell hbxv 4
          have x5 : wv.cell? ⟨B, 5, none⟩ = some (.int .i64 ul) := HK.blk_cell hbxv 5
          have x6 : wv.cell? ⟨B, 6, none⟩ = some (.slice ta tn tc) := HK.blk_cell hbxv 6
          have x7 : wv.cell? ⟨B, 7, none⟩ = some (.slice ka kn kc) := HK.blk_cell hbxv 7
          clear hbxv hs2
          go_wp2_with (
            go_at_call 28
            refine HS2.out.mono ?_
            rintro e ws ⟨rfl, hBs⟩
            have hvs := (hBs.block V (by simp; omega)).trans (HK.blk_alloc HVB.out _)
            have y0 : ws.cell? ⟨V, 0, none⟩ = some (.string ur) := HK.blk_cell hvs 0
            have y1 : ws.cell? ⟨V, 1, none⟩ = some (.int .u8 uo) := HK.blk_cell hvs 1
            have y2 : ws.cell? ⟨V, 2, none⟩ = some (.string un) := HK.blk_cell hvs 2
            have y3 : ws.cell? ⟨V, 3, none⟩ = some (.slice ea en ec) := HK.blk_cell hvs 3
            have y4 : ws.cell? ⟨V, 4, none⟩ = some (.slice ia i2 ic) := HK.blk_cell hvs 4
            have y5 : ws.cell? ⟨V, 5, none⟩ = some (.int .i64 ul) := HK.blk_cell hvs 5
            have y6 : ws.cell? ⟨V, 6, none⟩ = some (.slice ta tn tc) := HK.blk_cell hvs 6
            have y7 : ws.cell? ⟨V, 7, none⟩ = some (.slice ka kn kc) := HK.blk_cell hvs 7
            have yf := fun i => HK.blk_frozen hvs i
            have HVS := Lib.hid hvs
            have HBS := Lib.hid hBs
            clear hvs hBs)
          go_meet
          case rel =>
            have hR2 := (HBS.out.block wv.heap.size (by simp)).trans (HK.blk_new wv _)
            have hF := set8_frm ws V (.string ⟨#[114]⟩) (.int .u8 0) (.string ⟨#[]⟩) (.slice none 0 0) (.slice none 0 0) (.int .i64 0) (.slice (some ⟨wv.heap.size, 0, none⟩) 2 2) (.slice none 0 0)
            have hBs2 : Below wv.heap.size wv ws := below_then (bl_al (Below.refl _ _)) HBS.out
            have hps := (HPSB.out.up HBV.out).pq
            have hzF := hF.size
            have hlR := HK.blk_lt hR2
            have hbt := below_then HBV.out hBs2
            refine ⟨.node ruleR PO.nil [.node ur ⟨uo, un, ⟨ea, en, ec⟩, ⟨ia, i2, ic⟩, ul, ⟨ka, kn, kc⟩⟩ us, .node ur ⟨uo, un, ⟨ea, en, ec⟩, ⟨ia, i2, ic⟩, ul, ⟨ka, kn, kc⟩⟩ us], ⟨some ⟨wv.heap.size, 0, none⟩, 2, 2⟩, HBWH.out HK3.out, ⟨rfl, rfl, rfl, HBPL.out, HBPL.out, trivial⟩, by have := HBSZ.out; simp only [sizeT, sizeF] at this ⊢; omega, set8 HVS.out _ _ _ _ _ _ _ _, ?_, ?_⟩
            · have hsub : IsPq (fun b => b < ws.heap.size ∧ b ≠ V) ws ⟨ta, tn, tc⟩ us := (HPSB.out.pq).turn fun b hb => ⟨⟨by have := HBV.out.size; have := hBs2.size; omega, by omega⟩, hbt.block b hb⟩
              have h1 := pq_two (S := fun b => b < ws.heap.size ∧ b ≠ V) (c := 2) (q := .node ur ⟨uo, un, ⟨ea, en, ec⟩, ⟨ia, i2, ic⟩, ul, ⟨ka, kn, kc⟩⟩ us) (p := .node ur ⟨uo, un, ⟨ea, en, ec⟩, ⟨ia, i2, ic⟩, ul, ⟨ka, kn, kc⟩⟩ us) (s := ⟨ta, tn, tc⟩) (v := ⟨ta, tn, tc⟩) hR2 ⟨hlR, by omega⟩ hsub hsub
              exact (h1.turn (T := fun b => b < _) fun b hb => ⟨Nat.lt_of_lt_of_le hb.1 hzF, hF.block b hb.1 hb.2⟩).ps fun b hb => hb
            · exact hbt.trans (hF.below hbt.size (fun b e => by omega))
        | false =>
          go_wp2_with (fail)
          go_meet
          case rel => exact ⟨.node ur ⟨uo, un, ⟨ea, en, ec⟩, ⟨ia, i2, ic⟩, ul, ⟨ka, kn, kc⟩⟩ us, ⟨ta, tn, tc⟩, HBAD.out, HBPL.out, by have := HBSZ.out; omega, HVB.out, HPSB.out.up HBV.out, HBV.out⟩
      case rest =>
        clear e1 e2
        obtain ⟨wh, sw, hmw, hpw, hzw, hvb, hsw, hBq⟩ := hcut
        obtain ⟨wq, rfl⟩ : ∃ wq : World, wq = wc := ⟨_, rfl⟩
        have hg := fun (W : World) (hB : Below wq.heap.size wq W) => goals_call W wh sw SL.nil [] (hsw.up hB) (by omega) (IsW.nil W) (by simp) (by simp)
        have hp := fun (W : World) (hB : Below wq.heap.size wq W) => progress_call W wh sw SL.nil [] (hsw.up hB) (by omega) (IsW.nil W) (by simp) (by simp)
        have ha := fun (W : World) (hB : Below wq.heap.size wq W) => at_new W wh sw SL.nil [] (hsw.up hB) ⟨rfl, Nat.le_refl _, .inl rfl⟩ (by simp) (by omega) hpw
        unfold RetG at hg
        unfold RetS2 at hp
        unfold RetWq at ha
        simp only [code_bad hmw, at_bad hmw] at hg hp ha
        obtain ⟨N1, hN1⟩ : ∃ N1, N1 = progL wh [] := ⟨_, rfl⟩
        simp only [← hN1] at hp
        obtain ⟨vr, ⟨vo, vm, ⟨va, vn, vc⟩, ⟨wa2, wn, wc2⟩, vl, ⟨ya, yn, yc⟩⟩, vs⟩ := wh
        obtain ⟨xa, xn, xc⟩ := sw
        simp only [PT.arr, PT.rule, PT.o, PT.subs, SL.v, SL.nil, zeroT, PO.nil] at hg hp ha hvb
        have HG := Lib.hid hg
        have HP := Lib.hid hp
        have HA := Lib.hid ha
        have HVQ := Lib.hid hvb
        have HBQ := Lib.hid hBq
        have hpq := (hBq.block _ (HK.blk_lt HPA.out)).trans HPA.out
        have hgq := (hBq.block _ (HK.blk_lt HGA.out)).trans HGA.out
        have HPQ := Lib.hid hpq
        have HGQ := Lib.hid hgq
        have HSQ := Lib.hid (HSA.out.up hBq)
        have HCQ := Lib.hid (HCPA.out.same (W' := wq) fun kk hkk => hBq.block kk (HCPA.out.lt hkk))
        have HBWQ := Lib.hid (below_then HBWA.out hBq)
        have v0 : wq.cell? ⟨V, 0, none⟩ = some (.string vr) := HK.blk_cell hvb 0
        have v1 : wq.cell? ⟨V, 1, none⟩ = some (.int .u8 vo) := HK.blk_cell hvb 1
        have v2 : wq.cell? ⟨V, 2, none⟩ = some (.string vm) := HK.blk_cell hvb 2
        have v3 : wq.cell? ⟨V, 3, none⟩ = some (.slice va vn vc) := HK.blk_cell hvb 3
        have v4 : wq.cell? ⟨V, 4, none⟩ = some (.slice wa2 wn wc2) := HK.blk_cell hvb 4
        have v5 : wq.cell? ⟨V, 5, none⟩ = some (.int .i64 vl) := HK.blk_cell hvb 5
        have v6 : wq.cell? ⟨V, 6, none⟩ = some (.slice xa xn xc) := HK.blk_cell hvb 6
        have v7 : wq.cell? ⟨V, 7, none⟩ = some (.slice ya yn yc) := HK.blk_cell hvb 7
        clear hg hp ha hvb hBq hpq hgq hmw hpw hzw hsw hN1
        go_upto_region 31 with (
          go_at_call 11
          refine (HG.out wq (Below.refl _ _)).mono ?_
          rintro e w10 ⟨v10, gs10, rfl, _, _, hB10⟩
          have hv10 := (hB10.block _ (HK.blk_lt HVQ.out)).trans HVQ.out
          have a0 : w10.cell? ⟨V, 0, none⟩ = some (.string vr) := HK.blk_cell hv10 0
          have a1 : w10.cell? ⟨V, 1, none⟩ = some (.int .u8 vo) := HK.blk_cell hv10 1
          have a2 : w10.cell? ⟨V, 2, none⟩ = some (.string vm) := HK.blk_cell hv10 2
          have a3 : w10.cell? ⟨V, 3, none⟩ = some (.slice va vn vc) := HK.blk_cell hv10 3
          have a4 : w10.cell? ⟨V, 4, none⟩ = some (.slice wa2 wn wc2) := HK.blk_cell hv10 4
          have a5 : w10.cell? ⟨V, 5, none⟩ = some (.int .i64 vl) := HK.blk_cell hv10 5
          have a6 : w10.cell? ⟨V, 6, none⟩ = some (.slice xa xn xc) := HK.blk_cell hv10 6
          have a7 : w10.cell? ⟨V, 7, none⟩ = some (.slice ya yn yc) := HK.blk_cell hv10 7
          have HB10 := Lib.hid hB10
          clear hv10 hB10)
        clear v0 v1 v2 v3 v4 v5 v6 v7
        go_upto_region 32 with (
          go_at_call 17
          refine (HP.out w10 HB10.out).mono ?_
          rintro e w11 ⟨rfl, hB11⟩
          have hB11 := below_then HB10.out hB11
          have hv11 := (hB11.block _ (HK.blk_lt HVQ.out)).trans HVQ.out
          have b0 : w11.cell? ⟨V, 0, none⟩ = some (.string vr) := HK.blk_cell hv11 0
          have b1 : w11.cell? ⟨V, 1, none⟩ = some (.int .u8 vo) := HK.blk_cell hv11 1
          have b2 : w11.cell? ⟨V, 2, none⟩ = some (.string vm) := HK.blk_cell hv11 2
          have b3 : w11.cell? ⟨V, 3, none⟩ = some (.slice va vn vc) := HK.blk_cell hv11 3
          have b4 : w11.cell? ⟨V, 4, none⟩ = some (.slice wa2 wn wc2) := HK.blk_cell hv11 4
          have b5 : w11.cell? ⟨V, 5, none⟩ = some (.int .i64 vl) := HK.blk_cell hv11 5
          have b6 : w11.cell? ⟨V, 6, none⟩ = some (.slice xa xn xc) := HK.blk_cell hv11 6
          have b7 : w11.cell? ⟨V, 7, none⟩ = some (.slice ya yn yc) := HK.blk_cell hv11 7
          have HB11 := Lib.hid hB11
          clear hv11 hB11)
        clear a0 a1 a2 a3 a4 a5 a6 a7
        go_upto_region 33 with (
          go_at_call 32
          refine (HA.out w11 HB11.out).mono ?_
          rintro e w12 ⟨⟨za2, zn2, zc2⟩, rfl, _, hB12⟩
          have hB12 := below_then HB11.out hB12
          have HB12 := Lib.hid hB12
          clear hB12)
        obtain ⟨w13, hw13⟩ : ∃ w13, w13 = w12.alloc (.cells #[.string ⟨#[]⟩, .int .u8 0, .string ⟨#[]⟩, .slice none 0 0, .slice none 0 0, .int .i64 0, .slice za2 zn2 zc2, .slice none 0 0] 30) := ⟨_, rfl⟩
        rw [← hw13]
        have hB13 : Below wq.heap.size wq w13 := by rw [hw13]; exact bl_al HB12.out
        have hp13 := (hB13.block _ (HK.blk_lt HPQ.out)).trans HPQ.out
        have hg13 := (hB13.block _ (HK.blk_lt HGQ.out)).trans HGQ.out
        have hs13 := HSQ.out.up hB13
        have hc13 := HCQ.out.same (W' := w13) fun kk hkk => hB13.block kk (HCQ.out.lt hkk)
        have HP13 := Lib.hid hp13
        have HG13 := Lib.hid hg13
        have HS13 := Lib.hid hs13
        have HC13 := Lib.hid hc13
        have HB13 := Lib.hid (below_then HBWQ.out hB13)
        obtain ⟨zmax, hmx⟩ : ∃ zmax, zmax = max n3 0 := ⟨_, rfl⟩
        obtain ⟨zmin, hmn⟩ : ∃ zmin, zmin = min n3 (-1) := ⟨_, rfl⟩
        have hmx0 : 0 ≤ zmax := by omega
        have hmn0 : zmin < 0 := by omega
        have hmx2 : (if n3 < 0 then 0 else n3) = zmax := by rw [hmx]; split <;> omega
        have hmn2 : (if -1 < n3 then -1 else n3) = zmin := by rw [hmn]; split <;> omega
        clear b0 b1 b2 b3 b4 b5 b6 b7 hB13 hp13 hg13 hs13 hc13 hw13 hmx hmn
        go_cut [25] from 128 to 140 (fun v wx => v = .int .i64 6 ∧ Below w13.heap.size w13 wx)
        case first =>
          have hab0 := HAB.out zmax hmx0
          have hat13 := fun (W : World) (sl : SL) (hB : Below w13.heap.size w13 W) (hi : IsI W sl (natI pl ++ [zmax])) => HAT.out W ⟨sa, sn, sc⟩ sl (natI pl ++ [zmax]) (HS13.out.up hB) hi (by simp [natI]; omega)
          simp only [hab0, zeroT, PT.arr, PT.rule, PT.o, PT.subs, PO.nil, SL.nil, SL.v] at hat13
          have HAT2 := Lib.hid hat13
          have hPl : P < w13.heap.size := HK.blk_lt HP13.out
          have hGl : GB < w13.heap.size := HK.blk_lt HG13.out
          have k0 : w13.cell? ⟨GB, 0, none⟩ = some (.slice pa pn pc) := HK.blk_cell HG13.out 0
          have hpn : pn = pl.length := HC13.out.sn
          have HPN2 := Lib.hid hpn
          have hpn13 : pn ≤ 12 := by omega
          have p0 : w13.cell? ⟨P, 0, none⟩ = some (.string rule) := HK.blk_cell HP13.out 0
          have p1 : w13.cell? ⟨P, 1, none⟩ = some (.int .u8 op) := HK.blk_cell HP13.out 1
          have p2 : w13.cell? ⟨P, 2, none⟩ = some (.string name) := HK.blk_cell HP13.out 2
          have p3 : w13.cell? ⟨P, 3, none⟩ = some (.slice aa an ac) := HK.blk_cell HP13.out 3
          have p4 : w13.cell? ⟨P, 4, none⟩ = some (.slice fa fn fc) := HK.blk_cell HP13.out 4
          have p5 : w13.cell? ⟨P, 5, none⟩ = some (.int .i64 label) := HK.blk_cell HP13.out 5
          have p6 : w13.cell? ⟨P, 6, none⟩ = some (.slice sa sn sc) := HK.blk_cell HP13.out 6
          have p7 : w13.cell? ⟨P, 7, none⟩ = some (.slice ma mn mc) := HK.blk_cell HP13.out 7
          clear hab0 hat13 hpn
          refine Go.RE.wp_region_each [129, 130, 131, 132, 133, 134, 135, 136, 137, 138, 128, 139, 140, 24, 25] (fun L x W => (Below w13.heap.size w13 W) ∧ (L 0 = true → x 129 = .agg #[.string rule, .int .u8 op, .string name, .slice aa an ac, .slice fa fn fc, .int .i64 label, .slice sa sn sc, .slice ma mn mc]) ∧ (L 1 = true → ∃ e, x 130 = .slice (some ⟨e, 0, none⟩) 0 0 ∧ w13.heap.size ≤ e ∧ (L 4 = true ∨ W.heap[e]? = some (.cells #[] 3 (0, 0)))) ∧ (L 2 = true → x 131 = .pointer (some ⟨GB, 0, none⟩)) ∧ (L 3 = true → x 132 = .slice pa pn pc) ∧ (L 4 = true → ∃ g c, x 133 = .slice (some ⟨g, 0, none⟩) pn c ∧ w13.heap.size ≤ g ∧ (L 8 = true ∨ W.ownsRow 0 3 1 (.slice (some ⟨g, 0, none⟩) pn c) pn (ints pl))) ∧ (L 5 = true → x 134 = .int .i64 n3) ∧ (L 6 = true → x 135 = .int .i64 zmax) ∧ (L 7 = true → ∃ g, x 136 = .slice (some ⟨g, 0, none⟩) 1 1 ∧ (L 8 = true ∨ W.heap[g]? = some (.cells #[.int .i64 zmax] 3 (0, 0)))) ∧ (L 8 = true → ∃ g c, x 137 = .slice (some ⟨g, 0, none⟩) (pn + 1) c ∧ (L 9 = true ∨ IsI W ⟨some ⟨g, 0, none⟩, pn + 1, c⟩ (natI pl ++ [zmax]))) ∧ (L 9 = true → ∃ q : SL, x 138 = .tuple #[.agg #[.string ⟨#[]⟩, .int .u8 0, .string ⟨#[]⟩, .slice none 0 0, .slice none 0 0, .int .i64 0, .slice q.a q.n q.c, .slice none 0 0], .int .i64 6]) ∧ (L 10 = true → ∃ q : SL, x 128 = .tuple #[.agg #[.string ⟨#[]⟩, .int .u8 0, .string ⟨#[]⟩, .slice none 0 0, .slice none 0 0, .int .i64 0, .slice q.a q.n q.c, .slice none 0 0], .int .i64 6]) ∧ (L 11 = true → ∃ q : SL, x 139 = .agg #[.string ⟨#[]⟩, .int .u8 0, .string ⟨#[]⟩, .slice none 0 0, .slice none 0 0, .int .i64 0, .slice q.a q.n q.c, .slice none 0 0]) ∧ (L 12 = true → x 140 = .int .i64 6) ∧ (L 13 = true → ∃ B z0 z1 z2 z3 z4 z5 z6 z7, x 24 = .pointer (some ⟨B, 0, none⟩) ∧ w13.heap.size ≤ B ∧ W.heap[B]? = some (.cells #[z0, z1, z2, z3, z4, z5, z6, z7] 30 (0, 0))) ∧ (L 14 = true → True) ∧ (L 15 = true → x 25 = .int .i64 6)) (by kernel_rfl) (by kernel_rfl) (by kernel_rfl) ?_ ((Go.RE.Each.cons ?_ (Go.RE.Each.cons ?_ (Go.RE.Each.cons ?_ (Go.RE.Each.cons ?_ (Go.RE.Each.cons ?_ (Go.RE.Each.cons ?_ (Go.RE.Each.cons ?_ (Go.RE.Each.cons ?_ (Go.RE.Each.cons ?_ (Go.RE.Each.cons ?_ (Go.RE.Each.cons ?_ (Go.RE.Each.cons ?_ (Go.RE.Each.cons ?_ (Go.RE.Each.cons ?_ (Go.RE.Each.cons ?_ (Go.RE.Each.cons ?_ Go.RE.Each.nil))))))))))))))))) ?_
          · exact fun x => ⟨bl_dr (Below.refl _ w13), fun h => (by cases h), fun h => (by cases h), fun h => (by cases h), fun h => (by cases h), fun h => (by cases h), fun h => (by cases h), fun h => (by cases h), fun h => (by cases h), fun h => (by cases h), fun h => (by cases h), fun h => (by cases h), fun h => (by cases h), fun h => (by cases h), fun h => (by cases h), fun h => (by cases h), fun h => (by cases h)⟩
          · intro L x a w K hL hd hf hx hΦ hK
            obtain ⟨hI, f0, f1, f2, f3, f4, f5, f6, f7, f8, f9, f10, f11, f12, f13, f14, f15⟩ := hΦ
            have e9 : a.tmps[9]? = some (.pointer (some ⟨P, 0, none⟩)) := hf 9 (of_decide_eq_true (by kernel_rfl))
            clear hf hx hd
            have r0 := cell_then p0 hI
            have r1 := cell_then p1 hI
            have r2 := cell_then p2 hI
            have r3 := cell_then p3 hI
            have r4 := cell_then p4 hI
            have r5 := cell_then p5 hI
            have r6 := cell_then p6 hI
            have r7 := cell_then p7 hI
            go_simp
            refine hK _ _ ?_
            exact ⟨hI, fun _ => rfl, fun h => f1 h, fun h => f2 h, fun h => f3 h, fun h => f4 h, fun h => f5 h, fun h => f6 h, fun h => f7 h, fun h => f8 h, fun h => f9 h, fun h => f10 h, fun h => f11 h, fun h => f12 h, fun h => f13 h, fun _ => trivial, fun h => f15 h⟩
          · intro L x a w K hL hd hf hx hΦ hK
            obtain ⟨hI, f0, f1, f2, f3, f4, f5, f6, f7, f8, f9, f10, f11, f12, f13, f14, f15⟩ := hΦ
            clear hf hx hd
            go_simp
            refine hK _ _ ?_
            exact ⟨bl_al hI, fun h => f0 h, fun _ => ⟨_, rfl, hI.size, .inr (HK.blk_new _ _)⟩, fun h => f2 h, fun h => f3 h, fun h => (f4 h).imp fun g h => h.imp fun c h => ⟨h.1, h.2.1, h.2.2.imp id fun ho => own_below ho ((Below.refl _ w).alloc (Nat.le_refl _) _)⟩, fun h => f5 h, fun h => f6 h, fun h => (f7 h).imp fun g h => ⟨h.1, h.2.imp id fun h2 => blk_up ((Below.refl _ w).alloc (Nat.le_refl _) _) h2⟩, fun h => (f8 h).imp fun g h => h.imp fun c h => ⟨h.1, h.2.imp id fun hi => hi.below ((Below.refl _ w).alloc (Nat.le_refl _) _)⟩, fun h => f9 h, fun h => f10 h, fun h => f11 h, fun h => f12 h, fun h => box_up ((Below.refl _ w).alloc (Nat.le_refl _) _) (f13 h), fun _ => trivial, fun h => f15 h⟩
          · intro L x a w K hL hd hf hx hΦ hK
            obtain ⟨hI, f0, f1, f2, f3, f4, f5, f6, f7, f8, f9, f10, f11, f12, f13, f14, f15⟩ := hΦ
            have e12 : a.tmps[12]? = some (.pointer (some ⟨GB, 0, none⟩)) := hf 12 (of_decide_eq_true (by kernel_rfl))
            clear hf hx hd
            have rk0 := cell_then k0 hI
            go_simp
            refine hK _ _ ?_
            exact ⟨hI, fun h => f0 h, fun h => f1 h, fun _ => rfl, fun h => f3 h, fun h => f4 h, fun h => f5 h, fun h => f6 h, fun h => f7 h, fun h => f8 h, fun h => f9 h, fun h => f10 h, fun h => f11 h, fun h => f12 h, fun h => f13 h, fun _ => trivial, fun h => f15 h⟩
          · intro L x a w K hL hd hf hx hΦ hK
            obtain ⟨hI, f0, f1, f2, f3, f4, f5, f6, f7, f8, f9, f10, f11, f12, f13, f14, f15⟩ := hΦ
            have d2 := f2 (hd 2 (by kernel_rfl))
            have e131 : a.tmps[131]? = some (x 131) := hx 2 _ 131 rfl rfl (hd 2 (by kernel_rfl))
            clear hf hx hd
            rw [d2] at e131
            have rk0 := cell_then k0 hI
            go_simp
            refine hK _ _ ?_
            exact ⟨hI, fun h => f0 h, fun h => f1 h, fun h => f2 h, fun _ => rfl, fun h => f4 h, fun h => f5 h, fun h => f6 h, fun h => f7 h, fun h => f8 h, fun h => f9 h, fun h => f10 h, fun h => f11 h, fun h => f12 h, fun h => f13 h, fun _ => trivial, fun h => f15 h⟩
          · intro L x a w K hL hd hf hx hΦ hK
            obtain ⟨hI, f0, f1, f2, f3, f4, f5, f6, f7, f8, f9, f10, f11, f12, f13, f14, f15⟩ := hΦ
            have d1 := f1 (hd 1 (by kernel_rfl))
            have e130 : a.tmps[130]? = some (x 130) := hx 1 _ 130 rfl rfl (hd 1 (by kernel_rfl))
            have d3 := f3 (hd 3 (by kernel_rfl))
            have e132 : a.tmps[132]? = some (x 132) := hx 3 _ 132 rfl rfl (hd 3 (by kernel_rfl))
            clear hf hx hd
            obtain ⟨e, he, hen, heb⟩ := d1
            rw [he] at e130
            rw [d3] at e132
            have heb : w.heap[e]? = some (.cells #[] 3 (0, 0)) := heb.resolve_left (by rw [hL]; decide)
            refine of_wanted rfl (step_place 133 rfl rfl _ _ rfl e (ev e130) heb pa pn pc pl (ev e132) (place_up HC13.out hI) (by omega) ?_)
            intro g c w' hown hgrow hat
            have hgn : w13.heap.size ≤ g := by have := hI.size; rcases hat with h | h <;> omega
            refine hK _ _ ?_
            exact ⟨grown_below hI hgrow hen, fun h => f0 h, fun h => ⟨e, he, hen, .inl rfl⟩, fun h => f2 h, fun h => f3 h, fun _ => ⟨g, c, rfl, hgn, .inr hown⟩, fun h => f5 h, fun h => f6 h, fun h => (f7 h).imp fun g h => ⟨h.1, h.2.imp id fun h2 => grown_blk heb hgrow h2 (by simp)⟩, fun h => (f8 h).imp fun g h => h.imp fun c h => ⟨h.1, h.2.imp id fun hi => isI_grown heb hgrow hi⟩, fun h => f9 h, fun h => f10 h, fun h => f11 h, fun h => f12 h, fun h => box_grown heb hgrow (f13 h), fun _ => trivial, fun h => f15 h⟩
          · intro L x a w K hL hd hf hx hΦ hK
            obtain ⟨hI, f0, f1, f2, f3, f4, f5, f6, f7, f8, f9, f10, f11, f12, f13, f14, f15⟩ := hΦ
            have e3 : a.tmps[3]? = some (.int .i64 n3) := hf 3 (of_decide_eq_true (by kernel_rfl))
            clear hf hx hd
            go_simp
            refine hK _ _ ?_
            exact ⟨hI, fun h => f0 h, fun h => f1 h, fun h => f2 h, fun h => f3 h, fun h => f4 h, fun _ => rfl, fun h => f6 h, fun h => f7 h, fun h => f8 h, fun h => f9 h, fun h => f10 h, fun h => f11 h, fun h => f12 h, fun h => f13 h, fun _ => trivial, fun h => f15 h⟩
          · intro L x a w K hL hd hf hx hΦ hK
            obtain ⟨hI, f0, f1, f2, f3, f4, f5, f6, f7, f8, f9, f10, f11, f12, f13, f14, f15⟩ := hΦ
            have d5 := f5 (hd 5 (by kernel_rfl))
            have e134 : a.tmps[134]? = some (x 134) := hx 5 _ 134 rfl rfl (hd 5 (by kernel_rfl))
            clear hf hx hd
            rw [d5] at e134
            go_simp
            refine hK _ _ ?_
            exact ⟨hI, fun h => f0 h, fun h => f1 h, fun h => f2 h, fun h => f3 h, fun h => f4 h, fun h => f5 h, fun _ => rfl, fun h => f7 h, fun h => f8 h, fun h => f9 h, fun h => f10 h, fun h => f11 h, fun h => f12 h, fun h => f13 h, fun _ => trivial, fun h => f15 h⟩
          · intro L x a w K hL hd hf hx hΦ hK
            obtain ⟨hI, f0, f1, f2, f3, f4, f5, f6, f7, f8, f9, f10, f11, f12, f13, f14, f15⟩ := hΦ
            have d6 := f6 (hd 6 (by kernel_rfl))
            have e135 : a.tmps[135]? = some (x 135) := hx 6 _ 135 rfl rfl (hd 6 (by kernel_rfl))
            clear hf hx hd
            rw [d6] at e135
            go_simp
            refine hK _ _ ?_
            exact ⟨bl_al hI, fun h => f0 h, fun h => (f1 h).imp fun e h => ⟨h.1, h.2.1, h.2.2.imp id fun h2 => blk_up ((Below.refl _ w).alloc (Nat.le_refl _) _) h2⟩, fun h => f2 h, fun h => f3 h, fun h => (f4 h).imp fun g h => h.imp fun c h => ⟨h.1, h.2.1, h.2.2.imp id fun ho => own_below ho ((Below.refl _ w).alloc (Nat.le_refl _) _)⟩, fun h => f5 h, fun h => f6 h, fun _ => ⟨_, rfl, .inr (HK.blk_new _ _)⟩, fun h => (f8 h).imp fun g h => h.imp fun c h => ⟨h.1, h.2.imp id fun hi => hi.below ((Below.refl _ w).alloc (Nat.le_refl _) _)⟩, fun h => f9 h, fun h => f10 h, fun h => f11 h, fun h => f12 h, fun h => box_up ((Below.refl _ w).alloc (Nat.le_refl _) _) (f13 h), fun _ => trivial, fun h => f15 h⟩
          · intro L x a w K hL hd hf hx hΦ hK
            obtain ⟨hI, f0, f1, f2, f3, f4, f5, f6, f7, f8, f9, f10, f11, f12, f13, f14, f15⟩ := hΦ
            have d4 := f4 (hd 4 (by kernel_rfl))
            have e133 : a.tmps[133]? = some (x 133) := hx 4 _ 133 rfl rfl (hd 4 (by kernel_rfl))
            have d7 := f7 (hd 7 (by kernel_rfl))
            have e136 : a.tmps[136]? = some (x 136) := hx 7 _ 136 rfl rfl (hd 7 (by kernel_rfl))
            have l4 := hd 4 (by kernel_rfl)
            clear hf hx hd
            obtain ⟨g1, c1, hg1, hgn, hown⟩ := d4
            obtain ⟨g2, hg2, hgb⟩ := d7
            rw [hg1] at e133
            rw [hg2] at e136
            have hown := hown.resolve_left (by rw [hL]; decide)
            have hgb := hgb.resolve_left (by rw [hL]; decide)
            refine of_wanted rfl (HK.step_app1 rfl elem3 _ _ rfl (.slice (some ⟨g1, 0, none⟩) pn c1) pn (ints pl) (ev e133) hown g2 1 #[.int .i64 zmax] (ev e136) hgb rfl (by simp [Value.oneCell']) (by simp only [maxLen]; omega) (by omega) ?_)
            intro g c w' hown2 hgrow hat hlt
            have hi8 : IsI w' ⟨some ⟨g, 0, none⟩, pn + 1, c⟩ (natI pl ++ [zmax]) := isI_own (b := 0) (by rw [← ints_more]; exact hown2)
            have hcur := own_cells hown
            refine hK _ _ ?_
            exact ⟨grown_below hI hgrow hgn, fun h => f0 h, fun h => (f1 h).imp fun e h => ⟨h.1, h.2.1, .inl l4⟩, fun h => f2 h, fun h => f3 h, fun h => ⟨g1, c1, hg1, hgn, .inl rfl⟩, fun h => f5 h, fun h => f6 h, fun h => ⟨g2, hg2, .inl rfl⟩, fun _ => ⟨g, c, rfl, .inr hi8⟩, fun h => f9 h, fun h => f10 h, fun h => f11 h, fun h => f12 h, fun h => hcur.elim fun cur hc => box_grown hc hgrow (f13 h), fun _ => trivial, fun h => f15 h⟩
          · intro L x a w K hL hd hf hx hΦ hK
            obtain ⟨hI, f0, f1, f2, f3, f4, f5, f6, f7, f8, f9, f10, f11, f12, f13, f14, f15⟩ := hΦ
            have d0 := f0 (hd 0 (by kernel_rfl))
            have e129 : a.tmps[129]? = some (x 129) := hx 0 _ 129 rfl rfl (hd 0 (by kernel_rfl))
            have d8 := f8 (hd 8 (by kernel_rfl))
            have e137 : a.tmps[137]? = some (x 137) := hx 8 _ 137 rfl rfl (hd 8 (by kernel_rfl))
            clear hf hx hd
            obtain ⟨g, c, hg, hi⟩ := d8
            rw [d0] at e129
            rw [hg] at e137
            have hi := hi.resolve_left (by rw [hL]; decide)
            go_simp
            go_at_call 32
            with_reducible refine (HAT2.out _ ⟨some ⟨g, 0, none⟩, pn + 1, c⟩ hI hi).mono ?_
            rintro e w' ⟨q, rfl, _, hB8⟩
            simp only
            refine hK _ _ ?_
            exact ⟨below_then hI hB8, fun h => f0 h, fun h => (f1 h).imp fun e h => ⟨h.1, h.2.1, h.2.2.imp id fun h2 => blk_up hB8 h2⟩, fun h => f2 h, fun h => f3 h, fun h => (f4 h).imp fun g h => h.imp fun c h => ⟨h.1, h.2.1, h.2.2.imp id fun ho => own_below ho hB8⟩, fun h => f5 h, fun h => f6 h, fun h => (f7 h).imp fun g h => ⟨h.1, h.2.imp id fun h2 => blk_up hB8 h2⟩, fun h => ⟨g, c, hg, .inl rfl⟩, fun _ => ⟨q, rfl⟩, fun h => f10 h, fun h => f11 h, fun h => f12 h, fun h => box_up hB8 (f13 h), fun _ => trivial, fun h => f15 h⟩
          · intro L x a w K hL hd hf hx hΦ hK
            obtain ⟨hI, f0, f1, f2, f3, f4, f5, f6, f7, f8, f9, f10, f11, f12, f13, f14, f15⟩ := hΦ
            have d9 := f9 (hd 9 (by kernel_rfl))
            have e138 : a.tmps[138]? = some (x 138) := hx 9 _ 138 rfl rfl (hd 9 (by kernel_rfl))
            clear hf hx hd
            obtain ⟨q, hq⟩ := d9
            rw [hq] at e138
            go_simp
            refine hK _ _ ?_
            exact ⟨hI, fun h => f0 h, fun h => f1 h, fun h => f2 h, fun h => f3 h, fun h => f4 h, fun h => f5 h, fun h => f6 h, fun h => f7 h, fun h => f8 h, fun h => f9 h, fun _ => ⟨q, rfl⟩, fun h => f11 h, fun h => f12 h, fun h => f13 h, fun _ => trivial, fun h => f15 h⟩
          · intro L x a w K hL hd hf hx hΦ hK
            obtain ⟨hI, f0, f1, f2, f3, f4, f5, f6, f7, f8, f9, f10, f11, f12, f13, f14, f15⟩ := hΦ
            have d10 := f10 (hd 10 (by kernel_rfl))
            have e128 : a.tmps[128]? = some (x 128) := hx 10 _ 128 rfl rfl (hd 10 (by kernel_rfl))
            clear hf hx hd
            obtain ⟨q, hq⟩ := d10
            rw [hq] at e128
            go_simp
            refine hK _ _ ?_
            exact ⟨hI, fun h => f0 h, fun h => f1 h, fun h => f2 h, fun h => f3 h, fun h => f4 h, fun h => f5 h, fun h => f6 h, fun h => f7 h, fun h => f8 h, fun h => f9 h, fun h => f10 h, fun _ => ⟨q, rfl⟩, fun h => f12 h, fun h => f13 h, fun _ => trivial, fun h => f15 h⟩
          · intro L x a w K hL hd hf hx hΦ hK
            obtain ⟨hI, f0, f1, f2, f3, f4, f5, f6, f7, f8, f9, f10, f11, f12, f13, f14, f15⟩ := hΦ
            have d10 := f10 (hd 10 (by kernel_rfl))
            have e128 : a.tmps[128]? = some (x 128) := hx 10 _ 128 rfl rfl (hd 10 (by kernel_rfl))
            clear hf hx hd
            obtain ⟨q, hq⟩ := d10
            rw [hq] at e128
            go_simp
            refine hK _ _ ?_
            exact ⟨hI, fun h => f0 h, fun h => f1 h, fun h => f2 h, fun h => f3 h, fun h => f4 h, fun h => f5 h, fun h => f6 h, fun h => f7 h, fun h => f8 h, fun h => f9 h, fun h => f10 h, fun h => f11 h, fun _ => rfl, fun h => f13 h, fun _ => trivial, fun h => f15 h⟩
          · intro L x a w K hL hd hf hx hΦ hK
            obtain ⟨hI, f0, f1, f2, f3, f4, f5, f6, f7, f8, f9, f10, f11, f12, f13, f14, f15⟩ := hΦ
            clear hf hx hd
            go_simp
            refine hK _ _ ?_
            exact ⟨bl_al hI, fun h => f0 h, fun h => (f1 h).imp fun e h => ⟨h.1, h.2.1, h.2.2.imp id fun h2 => blk_up ((Below.refl _ w).alloc (Nat.le_refl _) _) h2⟩, fun h => f2 h, fun h => f3 h, fun h => (f4 h).imp fun g h => h.imp fun c h => ⟨h.1, h.2.1, h.2.2.imp id fun ho => own_below ho ((Below.refl _ w).alloc (Nat.le_refl _) _)⟩, fun h => f5 h, fun h => f6 h, fun h => (f7 h).imp fun g h => ⟨h.1, h.2.imp id fun h2 => blk_up ((Below.refl _ w).alloc (Nat.le_refl _) _) h2⟩, fun h => (f8 h).imp fun g h => h.imp fun c h => ⟨h.1, h.2.imp id fun hi => hi.below ((Below.refl _ w).alloc (Nat.le_refl _) _)⟩, fun h => f9 h, fun h => f10 h, fun h => f11 h, fun h => f12 h, fun _ => ⟨_, _, _, _, _, _, _, _, _, rfl, hI.size, HK.blk_new _ _⟩, fun _ => trivial, fun h => f15 h⟩
          · intro L x a w K hL hd hf hx hΦ hK
            obtain ⟨hI, f0, f1, f2, f3, f4, f5, f6, f7, f8, f9, f10, f11, f12, f13, f14, f15⟩ := hΦ
            have d11 := f11 (hd 11 (by kernel_rfl))
            have e139 : a.tmps[139]? = some (x 139) := hx 11 _ 139 rfl rfl (hd 11 (by kernel_rfl))
            have d13 := f13 (hd 13 (by kernel_rfl))
            have e24 : a.tmps[24]? = some (x 24) := hx 13 _ 24 rfl rfl (hd 13 (by kernel_rfl))
            have l4 := hd 4 (by kernel_rfl)
            have l8 := hd 8 (by kernel_rfl)
            have l9 := hd 9 (by kernel_rfl)
            clear hf hx hd
            obtain ⟨q, hq⟩ := d11
            obtain ⟨B, z0, z1, z2, z3, z4, z5, z6, z7, hb, hBl, hbx⟩ := d13
            rw [hq] at e139
            rw [hb] at e24
            have c0 := HK.blk_cell hbx 0
            have c1 := HK.blk_cell hbx 1
            have c2 := HK.blk_cell hbx 2
            have c3 := HK.blk_cell hbx 3
            have c4 := HK.blk_cell hbx 4
            have c5 := HK.blk_cell hbx 5
            have c6 := HK.blk_cell hbx 6
            have c7 := HK.blk_cell hbx 7
            have cf := fun i => HK.blk_frozen hbx i
            go_simp
            refine hK undef _ ?_
            exact ⟨below_set8 hI hBl rfl, fun h => f0 h, fun h => (f1 h).imp fun e h => ⟨h.1, h.2.1, .inl l4⟩, fun h => f2 h, fun h => f3 h, fun h => (f4 h).imp fun g h => h.imp fun c h => ⟨h.1, h.2.1, .inl l8⟩, fun h => f5 h, fun h => f6 h, fun h => (f7 h).imp fun g h => ⟨h.1, .inl l8⟩, fun h => (f8 h).imp fun g h => h.imp fun c h => ⟨h.1, .inl l9⟩, fun h => f9 h, fun h => f10 h, fun h => f11 h, fun h => f12 h, fun h => ⟨B, _, _, _, _, _, _, _, _, hb, hBl, set8 hbx _ _ _ _ _ _ _ _⟩, fun _ => trivial, fun h => f15 h⟩
          · intro L x a w K hL hd hf hx hΦ hK
            obtain ⟨hI, f0, f1, f2, f3, f4, f5, f6, f7, f8, f9, f10, f11, f12, f13, f14, f15⟩ := hΦ
            have d12 := f12 (hd 12 (by kernel_rfl))
            have e140 : a.tmps[140]? = some (x 140) := hx 12 _ 140 rfl rfl (hd 12 (by kernel_rfl))
            clear hf hx hd
            rw [d12] at e140
            go_simp
            refine hK _ _ ?_
            exact ⟨hI, fun h => f0 h, fun h => f1 h, fun h => f2 h, fun h => f3 h, fun h => f4 h, fun h => f5 h, fun h => f6 h, fun h => f7 h, fun h => f8 h, fun h => f9 h, fun h => f10 h, fun h => f11 h, fun h => f12 h, fun h => f13 h, fun _ => trivial, fun _ => rfl⟩
          · rintro x W ⟨hI, f0, f1, f2, f3, f4, f5, f6, f7, f8, f9, f10, f11, f12, f13, f14, f15⟩
            have h15 := f15 (by kernel_rfl)
            simp only [Exit.then]
            go_step
            go_meet
            case rel => exact ⟨h15, hI⟩
        case rest =>
          obtain ⟨rfl, hB14⟩ := hcut
          obtain ⟨w14, rfl⟩ : ∃ w14 : World, w14 = wc := ⟨_, rfl⟩
          have hp14 := (hB14.block _ (HK.blk_lt HP13.out)).trans HP13.out
          have hs14 := HS13.out.up hB14
          have HP14 := Lib.hid hp14
          have HS14 := Lib.hid hs14
          have HB14 := Lib.hid (below_then HB13.out hB14)
          obtain ⟨w15, hw15⟩ : ∃ w15, w15 = (w14.alloc (.cells #[.int .i64 zmin] 3)).alloc (.cells #[.slice (some ⟨w14.heap.size, 0, none⟩) 1 1] 37) := ⟨_, rfl⟩
          have hB15 : Below w14.heap.size w14 w15 := by rw [hw15]; exact bl_al (bl_al (Below.refl _ _))
          have hi15 : w15.heap[w14.heap.size]? = some (.cells #[.int .i64 zmin] 3 (0, 0)) := by rw [hw15]; exact HK.blk_alloc (HK.blk_new _ _) _
          have hj15 : w15.heap[w14.heap.size + 1]? = some (.cells #[.slice (some ⟨w14.heap.size, 0, none⟩) 1 1] 37 (0, 0)) := by rw [hw15]; exact blk_new1 _ _ _
          have hint : IsI w15 ⟨some ⟨w14.heap.size, 0, none⟩, 1, 1⟩ [zmin] := ⟨rfl, Nat.le_refl _, .inr ⟨_, 0, rfl, fun j x hx => by
            cases j with
            | zero => simp at hx; subst hx; exact HK.blk_cell hi15 0
            | succ j => simp at hx⟩⟩
          have hst := HST.out w15 ⟨sa, sn, sc⟩ ⟨some ⟨w14.heap.size + 1, 0, none⟩, 1, 1⟩ [[zmin]] (hs14.up hB15) ⟨rfl, .inr ⟨_, 0, rfl, fun _ => ⟨some ⟨w14.heap.size, 0, none⟩, 1, 1⟩, fun j x hx => by
            cases j with
            | zero => simp at hx; subst hx; exact ⟨HK.blk_cell hj15 0, hint⟩
            | succ j => simp at hx⟩⟩ (by simp) (by simp)
          obtain ⟨N2, hN2⟩ : ∃ N2, N2 = countL tr [[zmin]] := ⟨_, rfl⟩
          rw [← hN2, HTB.out, code_neg L zmin hmn0] at hst
          simp only at hst
          rw [hw15] at hst
          have HST2 := Lib.hid hst
          have HB15 := Lib.hid hB15
          have p0 : w14.cell? ⟨P, 0, none⟩ = some (.string rule) := HK.blk_cell hp14 0
          have p1 : w14.cell? ⟨P, 1, none⟩ = some (.int .u8 op) := HK.blk_cell hp14 1
          have p2 : w14.cell? ⟨P, 2, none⟩ = some (.string name) := HK.blk_cell hp14 2
          have p3 : w14.cell? ⟨P, 3, none⟩ = some (.slice aa an ac) := HK.blk_cell hp14 3
          have p4 : w14.cell? ⟨P, 4, none⟩ = some (.slice fa fn fc) := HK.blk_cell hp14 4
          have p5 : w14.cell? ⟨P, 5, none⟩ = some (.int .i64 label) := HK.blk_cell hp14 5
          have p6 : w14.cell? ⟨P, 6, none⟩ = some (.slice sa sn sc) := HK.blk_cell hp14 6
          have p7 : w14.cell? ⟨P, 7, none⟩ = some (.slice ma mn mc) := HK.blk_cell hp14 7
          clear hp14 hs14 hB14 hi15 hj15 hint hst hN2 hB15 hw15
          go_upto_region 35 with (go_at_call 16; (with_reducible refine HST2.out.mono ?_; rintro e w16 ⟨rfl, hB16⟩))
          clear p0 p1 p2 p3 p4 p5 p6 p7
          have hB16' : Below w14.heap.size w14 w16 := below_then (bl_al (bl_al (Below.refl _ w14))) hB16
          have hp16 := (hB16'.block _ (HK.blk_lt HP14.out)).trans HP14.out
          have HP16 := Lib.hid hp16
          have HS16 := Lib.hid (HS14.out.up hB16')
          have HB16 := Lib.hid (below_then HB14.out hB16')
          clear hB16 hB16' hp16
          go_cut [29] from 150 to 158 (fun v wx => v = .int .i64 6 ∧ Below w16.heap.size w16 wx)
          case first =>
            have hw6 : withR tr holeT [zmin] = (6, zeroT) := by rw [HTB.out]; exact with_neg L zmin hmn0
            have hwn := fun (W : World) (g1 : Nat) (hB : Below w16.heap.size w16 W) (hi : IsI W ⟨some ⟨g1, 0, none⟩, 1, 1⟩ [zmin]) => HWI.out W ⟨sa, sn, sc⟩ SL.nil ⟨some ⟨g1, 0, none⟩, 1, 1⟩ holeT [zmin] (HS16.out.up hB) (IsPs.nil none 0) hi (by simp) (by simp [holeT, sizeT, sizeF]) plain_hole
            simp only [hw6] at hwn
            simp only [zeroT, holeT, PT.arr, PT.rule, PT.o, PO.nil, SL.nil, SL.v] at hwn
            have HWN := Lib.hid hwn
            have hPl : P < w16.heap.size := HK.blk_lt HP16.out
            have p0 : w16.cell? ⟨P, 0, none⟩ = some (.string rule) := HK.blk_cell HP16.out 0
            have p1 : w16.cell? ⟨P, 1, none⟩ = some (.int .u8 op) := HK.blk_cell HP16.out 1
            have p2 : w16.cell? ⟨P, 2, none⟩ = some (.string name) := HK.blk_cell HP16.out 2
            have p3 : w16.cell? ⟨P, 3, none⟩ = some (.slice aa an ac) := HK.blk_cell HP16.out 3
            have p4 : w16.cell? ⟨P, 4, none⟩ = some (.slice fa fn fc) := HK.blk_cell HP16.out 4
            have p5 : w16.cell? ⟨P, 5, none⟩ = some (.int .i64 label) := HK.blk_cell HP16.out 5
            have p6 : w16.cell? ⟨P, 6, none⟩ = some (.slice sa sn sc) := HK.blk_cell HP16.out 6
            have p7 : w16.cell? ⟨P, 7, none⟩ = some (.slice ma mn mc) := HK.blk_cell HP16.out 7
            clear hw6 hwn
            refine Go.RE.wp_region_each [151, 152, 153, 154, 155, 156, 150, 157, 158, 28, 29] (fun L x W => (Below w16.heap.size w16 W) ∧ (L 0 = true → x 151 = .agg #[.string rule, .int .u8 op, .string name, .slice aa an ac, .slice fa fn fc, .int .i64 label, .slice sa sn sc, .slice ma mn mc]) ∧ (L 1 = true → x 152 = .int .i64 n3) ∧ (L 2 = true → x 153 = .int .i64 zmin) ∧ (L 3 = true → ∃ g, x 154 = .slice (some ⟨g, 0, none⟩) 1 1 ∧ W.heap[g]? = some (.cells #[.int .i64 zmin] 3 (0, 0))) ∧ (L 4 = true → x 155 = .agg #[.string ⟨#[63]⟩, .int .u8 0, .string ⟨#[]⟩, .slice none 0 0, .slice none 0 0, .int .i64 0, .slice none 0 0, .slice none 0 0]) ∧ (L 5 = true → ∃ q : SL, x 156 = .tuple #[.agg #[.string ⟨#[]⟩, .int .u8 0, .string ⟨#[]⟩, .slice none 0 0, .slice none 0 0, .int .i64 0, .slice q.a q.n q.c, .slice none 0 0], .int .i64 6]) ∧ (L 6 = true → ∃ q : SL, x 150 = .tuple #[.agg #[.string ⟨#[]⟩, .int .u8 0, .string ⟨#[]⟩, .slice none 0 0, .slice none 0 0, .int .i64 0, .slice q.a q.n q.c, .slice none 0 0], .int .i64 6]) ∧ (L 7 = true → ∃ q : SL, x 157 = .agg #[.string ⟨#[]⟩, .int .u8 0, .string ⟨#[]⟩, .slice none 0 0, .slice none 0 0, .int .i64 0, .slice q.a q.n q.c, .slice none 0 0]) ∧ (L 8 = true → x 158 = .int .i64 6) ∧ (L 9 = true → ∃ B z0 z1 z2 z3 z4 z5 z6 z7, x 28 = .pointer (some ⟨B, 0, none⟩) ∧ w16.heap.size ≤ B ∧ W.heap[B]? = some (.cells #[z0, z1, z2, z3, z4, z5, z6, z7] 30 (0, 0))) ∧ (L 10 = true → True) ∧ (L 11 = true → x 29 = .int .i64 6)) (by kernel_rfl) (by kernel_rfl) (by kernel_rfl) ?_ ((Go.RE.Each.cons ?_ (Go.RE.Each.cons ?_ (Go.RE.Each.cons ?_ (Go.RE.Each.cons ?_ (Go.RE.Each.cons ?_ (Go.RE.Each.cons ?_ (Go.RE.Each.cons ?_ (Go.RE.Each.cons ?_ (Go.RE.Each.cons ?_ (Go.RE.Each.cons ?_ (Go.RE.Each.cons ?_ (Go.RE.Each.cons ?_ Go.RE.Each.nil))))))))))))) ?_
            · exact fun x => ⟨bl_dr (Below.refl _ w16), fun h => (by cases h), fun h => (by cases h), fun h => (by cases h), fun h => (by cases h), fun h => (by cases h), fun h => (by cases h), fun h => (by cases h), fun h => (by cases h), fun h => (by cases h), fun h => (by cases h), fun h => (by cases h), fun h => (by cases h)⟩
            · intro L x a w K hL hd hf hx hΦ hK
              obtain ⟨hI, f0, f1, f2, f3, f4, f5, f6, f7, f8, f9, f10, f11⟩ := hΦ
              have e9 : a.tmps[9]? = some (.pointer (some ⟨P, 0, none⟩)) := hf 9 (of_decide_eq_true (by kernel_rfl))
              clear hf hx hd
              have r0 := cell_then p0 hI
              have r1 := cell_then p1 hI
              have r2 := cell_then p2 hI
              have r3 := cell_then p3 hI
              have r4 := cell_then p4 hI
              have r5 := cell_then p5 hI
              have r6 := cell_then p6 hI
              have r7 := cell_then p7 hI
              go_simp
              refine hK _ _ ?_
              exact ⟨hI, fun _ => rfl, fun h => f1 h, fun h => f2 h, fun h => f3 h, fun h => f4 h, fun h => f5 h, fun h => f6 h, fun h => f7 h, fun h => f8 h, fun h => f9 h, fun _ => trivial, fun h => f11 h⟩
            · intro L x a w K hL hd hf hx hΦ hK
              obtain ⟨hI, f0, f1, f2, f3, f4, f5, f6, f7, f8, f9, f10, f11⟩ := hΦ
              have e3 : a.tmps[3]? = some (.int .i64 n3) := hf 3 (of_decide_eq_true (by kernel_rfl))
              clear hf hx hd
              go_simp
              refine hK _ _ ?_
              exact ⟨hI, fun h => f0 h, fun _ => rfl, fun h => f2 h, fun h => f3 h, fun h => f4 h, fun h => f5 h, fun h => f6 h, fun h => f7 h, fun h => f8 h, fun h => f9 h, fun _ => trivial, fun h => f11 h⟩
            · intro L x a w K hL hd hf hx hΦ hK
              obtain ⟨hI, f0, f1, f2, f3, f4, f5, f6, f7, f8, f9, f10, f11⟩ := hΦ
              have d1 := f1 (hd 1 (by kernel_rfl))
              have e152 : a.tmps[152]? = some (x 152) := hx 1 _ 152 rfl rfl (hd 1 (by kernel_rfl))
              clear hf hx hd
              rw [d1] at e152
              go_simp
              refine hK _ _ ?_
              exact ⟨hI, fun h => f0 h, fun h => f1 h, fun _ => rfl, fun h => f3 h, fun h => f4 h, fun h => f5 h, fun h => f6 h, fun h => f7 h, fun h => f8 h, fun h => f9 h, fun _ => trivial, fun h => f11 h⟩
            · intro L x a w K hL hd hf hx hΦ hK
              obtain ⟨hI, f0, f1, f2, f3, f4, f5, f6, f7, f8, f9, f10, f11⟩ := hΦ
              have d2 := f2 (hd 2 (by kernel_rfl))
              have e153 : a.tmps[153]? = some (x 153) := hx 2 _ 153 rfl rfl (hd 2 (by kernel_rfl))
              clear hf hx hd
              rw [d2] at e153
              go_simp
              refine hK _ _ ?_
              exact ⟨bl_al hI, fun h => f0 h, fun h => f1 h, fun h => f2 h, fun _ => ⟨_, rfl, HK.blk_new _ _⟩, fun h => f4 h, fun h => f5 h, fun h => f6 h, fun h => f7 h, fun h => f8 h, fun h => box_up ((Below.refl _ w).alloc (Nat.le_refl _) _) (f9 h), fun _ => trivial, fun h => f11 h⟩
            · intro L x a w K hL hd hf hx hΦ hK
              obtain ⟨hI, f0, f1, f2, f3, f4, f5, f6, f7, f8, f9, f10, f11⟩ := hΦ
              clear hf hx hd
              go_simp
              go_at_call 25
              refine (HH.out _).mono ?_
              rintro e w' ⟨rfl, rfl⟩
              refine hK _ _ ?_
              exact ⟨bl_al hI, fun h => f0 h, fun h => f1 h, fun h => f2 h, fun h => (f3 h).imp fun g hg => ⟨hg.1, blk_up ((Below.refl _ w).alloc (Nat.le_refl _) _) hg.2⟩, fun _ => rfl, fun h => f5 h, fun h => f6 h, fun h => f7 h, fun h => f8 h, fun h => box_up ((Below.refl _ w).alloc (Nat.le_refl _) _) (f9 h), fun _ => trivial, fun h => f11 h⟩
            · intro L x a w K hL hd hf hx hΦ hK
              obtain ⟨hI, f0, f1, f2, f3, f4, f5, f6, f7, f8, f9, f10, f11⟩ := hΦ
              have d0 := f0 (hd 0 (by kernel_rfl))
              have e151 : a.tmps[151]? = some (x 151) := hx 0 _ 151 rfl rfl (hd 0 (by kernel_rfl))
              have d3 := f3 (hd 3 (by kernel_rfl))
              have e154 : a.tmps[154]? = some (x 154) := hx 3 _ 154 rfl rfl (hd 3 (by kernel_rfl))
              have d4 := f4 (hd 4 (by kernel_rfl))
              have e155 : a.tmps[155]? = some (x 155) := hx 4 _ 155 rfl rfl (hd 4 (by kernel_rfl))
              clear hf hx hd
              obtain ⟨g, hg, hgb⟩ := d3
              rw [d0] at e151
              rw [hg] at e154
              rw [d4] at e155
              go_simp
              go_at_call 24
              refine (HWN.out _ _ hI (isI_new hgb)).mono ?_
              rintro e w' ⟨q, rfl, _, hB8⟩
              simp only
              refine hK _ _ ?_
              exact ⟨below_then hI hB8, fun h => f0 h, fun h => f1 h, fun h => f2 h, fun h => (f3 h).imp fun g hg => ⟨hg.1, blk_up hB8 hg.2⟩, fun h => f4 h, fun _ => ⟨q, rfl⟩, fun h => f6 h, fun h => f7 h, fun h => f8 h, fun h => box_up hB8 (f9 h), fun _ => trivial, fun h => f11 h⟩
            · intro L x a w K hL hd hf hx hΦ hK
              obtain ⟨hI, f0, f1, f2, f3, f4, f5, f6, f7, f8, f9, f10, f11⟩ := hΦ
              have d5 := f5 (hd 5 (by kernel_rfl))
              have e156 : a.tmps[156]? = some (x 156) := hx 5 _ 156 rfl rfl (hd 5 (by kernel_rfl))
              clear hf hx hd
              obtain ⟨q, hq⟩ := d5
              rw [hq] at e156
              go_simp
              refine hK _ _ ?_
              exact ⟨hI, fun h => f0 h, fun h => f1 h, fun h => f2 h, fun h => f3 h, fun h => f4 h, fun h => f5 h, fun _ => ⟨q, rfl⟩, fun h => f7 h, fun h => f8 h, fun h => f9 h, fun _ => trivial, fun h => f11 h⟩
            · intro L x a w K hL hd hf hx hΦ hK
              obtain ⟨hI, f0, f1, f2, f3, f4, f5, f6, f7, f8, f9, f10, f11⟩ := hΦ
              have d6 := f6 (hd 6 (by kernel_rfl))
              have e150 : a.tmps[150]? = some (x 150) := hx 6 _ 150 rfl rfl (hd 6 (by kernel_rfl))
              clear hf hx hd
              obtain ⟨q, hq⟩ := d6
              rw [hq] at e150
              go_simp
              refine hK _ _ ?_
              exact ⟨hI, fun h => f0 h, fun h => f1 h, fun h => f2 h, fun h => f3 h, fun h => f4 h, fun h => f5 h, fun h => f6 h, fun _ => ⟨q, rfl⟩, fun h => f8 h, fun h => f9 h, fun _ => trivial, fun h => f11 h⟩
            · intro L x a w K hL hd hf hx hΦ hK
              obtain ⟨hI, f0, f1, f2, f3, f4, f5, f6, f7, f8, f9, f10, f11⟩ := hΦ
              have d6 := f6 (hd 6 (by kernel_rfl))
              have e150 : a.tmps[150]? = some (x 150) := hx 6 _ 150 rfl rfl (hd 6 (by kernel_rfl))
              clear hf hx hd
              obtain ⟨q, hq⟩ := d6
              rw [hq] at e150
              go_simp
              refine hK _ _ ?_
              exact ⟨hI, fun h => f0 h, fun h => f1 h, fun h => f2 h, fun h => f3 h, fun h => f4 h, fun h => f5 h, fun h => f6 h, fun h => f7 h, fun _ => rfl, fun h => f9 h, fun _ => trivial, fun h => f11 h⟩
            · intro L x a w K hL hd hf hx hΦ hK
              obtain ⟨hI, f0, f1, f2, f3, f4, f5, f6, f7, f8, f9, f10, f11⟩ := hΦ
              clear hf hx hd
              go_simp
              refine hK _ _ ?_
              exact ⟨bl_al hI, fun h => f0 h, fun h => f1 h, fun h => f2 h, fun h => (f3 h).imp fun g hg => ⟨hg.1, blk_up ((Below.refl _ w).alloc (Nat.le_refl _) _) hg.2⟩, fun h => f4 h, fun h => f5 h, fun h => f6 h, fun h => f7 h, fun h => f8 h, fun _ => ⟨_, _, _, _, _, _, _, _, _, rfl, hI.size, HK.blk_new _ _⟩, fun _ => trivial, fun h => f11 h⟩
            · intro L x a w K hL hd hf hx hΦ hK
              obtain ⟨hI, f0, f1, f2, f3, f4, f5, f6, f7, f8, f9, f10, f11⟩ := hΦ
              have d7 := f7 (hd 7 (by kernel_rfl))
              have e157 : a.tmps[157]? = some (x 157) := hx 7 _ 157 rfl rfl (hd 7 (by kernel_rfl))
              have d9 := f9 (hd 9 (by kernel_rfl))
              have e28 : a.tmps[28]? = some (x 28) := hx 9 _ 28 rfl rfl (hd 9 (by kernel_rfl))
              clear hf hx hd
              obtain ⟨q, hq⟩ := d7
              obtain ⟨B, z0, z1, z2, z3, z4, z5, z6, z7, hb, hBl, hbx⟩ := d9
              rw [hq] at e157
              rw [hb] at e28
              have c0 := HK.blk_cell hbx 0
              have c1 := HK.blk_cell hbx 1
              have c2 := HK.blk_cell hbx 2
              have c3 := HK.blk_cell hbx 3
              have c4 := HK.blk_cell hbx 4
              have c5 := HK.blk_cell hbx 5
              have c6 := HK.blk_cell hbx 6
              have c7 := HK.blk_cell hbx 7
              have cf := fun i => HK.blk_frozen hbx i
              go_simp
              refine hK undef _ ?_
              exact ⟨below_set8 hI hBl rfl, fun h => f0 h, fun h => f1 h, fun h => f2 h, fun h => (f3 h).imp fun g hg => ⟨hg.1, keep_set8 hbx hg.2 (by simp) _ _ _ _ _ _ _ _ rfl⟩, fun h => f4 h, fun h => f5 h, fun h => f6 h, fun h => f7 h, fun h => f8 h, fun h => ⟨B, _, _, _, _, _, _, _, _, hb, hBl, set8 hbx _ _ _ _ _ _ _ _⟩, fun _ => trivial, fun h => f11 h⟩
            · intro L x a w K hL hd hf hx hΦ hK
              obtain ⟨hI, f0, f1, f2, f3, f4, f5, f6, f7, f8, f9, f10, f11⟩ := hΦ
              have d8 := f8 (hd 8 (by kernel_rfl))
              have e158 : a.tmps[158]? = some (x 158) := hx 8 _ 158 rfl rfl (hd 8 (by kernel_rfl))
              clear hf hx hd
              rw [d8] at e158
              go_simp
              refine hK _ _ ?_
              exact ⟨hI, fun h => f0 h, fun h => f1 h, fun h => f2 h, fun h => f3 h, fun h => f4 h, fun h => f5 h, fun h => f6 h, fun h => f7 h, fun h => f8 h, fun h => f9 h, fun _ => trivial, fun _ => rfl⟩
            · rintro x W ⟨hI, f0, f1, f2, f3, f4, f5, f6, f7, f8, f9, f10, f11⟩
              have h11 := f11 (by kernel_rfl)
              simp only [Exit.then]
              go_step
              go_meet
              case rel => exact ⟨h11, hI⟩
          case rest =>
            obtain ⟨rfl, hB17⟩ := hcut
            obtain ⟨w17, rfl⟩ : ∃ w17 : World, w17 = wc := ⟨_, rfl⟩
            have HB17 := Lib.hid (below_then HB16.out hB17)
            clear hB17
            go_wp2_with (go_at_call 14; (refine (haw _).mono ?_; rintro e w18 ⟨rfl, hB18⟩))
            go_ret
            exact ⟨rfl, below_then HB17.out hB18⟩
end Go.Proofs.Ytfebcpmbkljaoaa
