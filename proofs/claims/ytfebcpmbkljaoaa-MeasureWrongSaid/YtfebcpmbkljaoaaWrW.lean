/- The walk of MeasureWrong. -/
import Derived.Test.YtfebcpmbkljaoaaWrB
import Derived.Test.YtfebcpmbkljaoaaInts
import Derived.Deep.CutBlock
namespace Go.Proofs.Ytfebcpmbkljaoaa
open Go.RowKit Go.HR
set_option linter.unusedVariables false
set_option linter.unusedSimpArgs false
set_option linter.unusedSectionVars false
set_option maxRecDepth 100000 in
set_option maxHeartbeats 16000000 in
theorem wrong_walk (w : World) (a : Option Addr) (n c : Nat) (L : List Nat) (h : BytesAt w a n L) (ya : Option Addr) (yn yc : Nat) (ws : List (List Nat)) (hy : IsY w ⟨ya, yn, yc⟩ ws) : Calls Try.prog 5 #[.slice a n c, .slice ya yn yc] w (RetB w (.bool true)) := by
  have hb := built_call w a n c L h
  unfold RetP at hb
  have hm := built_meas L
  have hsz := built_size2 L
  have hpl := built_plain L
  have hfit := built_fit L
  obtain ⟨t, ht⟩ : ∃ t, t = builtT L := ⟨_, rfl⟩
  rw [← ht] at hb hm hsz hpl hfit
  have hyn := hy.1
  simp only at hyn
  have hpr := fun (W : World) (sv s : SL) (ps : List (List Nat)) => prog_at (W := W) (t := t) (sv := sv) (s := s) (ps := ps) hm
  have hgo := fun (W : World) (sv s : SL) (ps : List (List Nat)) => goals_at (W := W) (t := t) (sv := sv) (s := s) (ps := ps) hm
  obtain ⟨tr, hT⟩ : ∃ tr, tr = t := ⟨_, rfl⟩
  obtain ⟨rule, ⟨op, name, ⟨aa, an, ac⟩, ⟨fa, fn, fc⟩, label, ⟨ma, mn, mc⟩⟩, subs⟩ := t
  simp only [PT.arr, PT.rule, PT.o, PT.subs, SL.v] at hb hpr hgo
  have haw := awake_call
  have HB := Lib.hid hb
  have HP := Lib.hid hpr
  have HG := Lib.hid hgo
  have HM := Lib.hid hm
  have HPL := Lib.hid hpl
  have HFIT := Lib.hid hfit
  have HSZ := Lib.hid hsz
  have HY := Lib.hid hy
  have HYN := Lib.hid hyn
  have HTR := Lib.hid hT
  clear hb hm hsz hpl hfit ht hT hpr hgo h hy hyn
  go_enter Try.func5, Try.ntmps5
  go_upto_region 2 with (go_at_call 10; (refine HB.out.mono ?_; rintro e w1 ⟨⟨sa, sn, sc⟩, rfl, hq1, hB1⟩))
  have hs1 := (hq1.ps (n0 := w1.heap.size) fun k hk => hk.2).up ((Below.refl _ w1).alloc (Nat.le_refl _) (.cells #[.string rule, .int .u8 op, .string name, .slice aa an ac, .slice fa fn fc, .int .i64 label, .slice sa sn sc, .slice ma mn mc] 30))
  obtain ⟨w2, hw2⟩ : ∃ w2, w2 = w1.alloc (.cells #[.string rule, .int .u8 op, .string name, .slice aa an ac, .slice fa fn fc, .int .i64 label, .slice sa sn sc, .slice ma mn mc] 30) := ⟨_, rfl⟩
  rw [← hw2] at hs1 ⊢
  obtain ⟨P, hP⟩ : ∃ P, P = w1.heap.size := ⟨_, rfl⟩
  rw [← hP]
  have hB2 : Below w.heap.size w w2 := by rw [hw2]; exact hB1.alloc hB1.size _
  have hpb2 : w2.heap[P]? = some (.cells #[.string rule, .int .u8 op, .string name, .slice aa an ac, .slice fa fn fc, .int .i64 label, .slice sa sn sc, .slice ma mn mc] 30 (0, 0)) := by rw [hw2, hP]; exact HK.blk_new _ _
  have HS2 := Lib.hid hs1
  have HB2 := Lib.hid hB2
  have HPB2 := Lib.hid hpb2
  clear hs1 hq1 hB1 hw2 hP hB2 hpb2
  by_cases h6 : 6 < yn
  · have h6I : (6 : Int) < (yn : Int) := by omega
    go_wp2_with (go_at_call 14; (refine (haw _).mono ?_; rintro e w8 ⟨rfl, hB8⟩))
    go_ret
    exact ⟨rfl, below_then HB2.out hB8⟩
  · have h6I : ¬ ((6 : Int) < (yn : Int)) := by omega
    have hc2 := HP.out w2 ⟨sa, sn, sc⟩ SL.nil [] HS2.out (IsW.nil w2) (fun p hp => by cases hp) (by simp) (by simp)
    simp only [SL.v, SL.nil] at hc2
    obtain ⟨b0, hb0⟩ : ∃ b0, b0 = progL (.node rule ⟨op, name, ⟨aa, an, ac⟩, ⟨fa, fn, fc⟩, label, ⟨ma, mn, mc⟩⟩ subs) (([] : List (List Nat)).map natI) := ⟨_, rfl⟩
    rw [← hb0] at hc2
    have HC2 := Lib.hid hc2
    have HB0 := Lib.hid hb0
    have p0 : w2.cell? ⟨P, 0, none⟩ = some (.string rule) := HK.blk_cell HPB2.out 0
    have p1 : w2.cell? ⟨P, 1, none⟩ = some (.int .u8 op) := HK.blk_cell HPB2.out 1
    have p2 : w2.cell? ⟨P, 2, none⟩ = some (.string name) := HK.blk_cell HPB2.out 2
    have p3 : w2.cell? ⟨P, 3, none⟩ = some (.slice aa an ac) := HK.blk_cell HPB2.out 3
    have p4 : w2.cell? ⟨P, 4, none⟩ = some (.slice fa fn fc) := HK.blk_cell HPB2.out 4
    have p5 : w2.cell? ⟨P, 5, none⟩ = some (.int .i64 label) := HK.blk_cell HPB2.out 5
    have p6 : w2.cell? ⟨P, 6, none⟩ = some (.slice sa sn sc) := HK.blk_cell HPB2.out 6
    have p7 : w2.cell? ⟨P, 7, none⟩ = some (.slice ma mn mc) := HK.blk_cell HPB2.out 7
    clear hc2 hb0
    go_upto_region 8 with (go_at_call 17; (refine HC2.out.mono ?_; rintro e w3 ⟨rfl, hB3⟩))
    clear p0 p1 p2 p3 p4 p5 p6 p7
    have HPB3 := Lib.hid ((hB3.block _ (HK.blk_lt HPB2.out)).trans HPB2.out)
    have HS3 := Lib.hid (HS2.out.up hB3)
    have HB3 := Lib.hid (below_then HB2.out hB3)
    have HY3 := Lib.hid (HY.out.below HB3.out)
    clear hB3
    go_upto_block 0 with (fail)
    go_cut [6] from 33 to 100 (fun v wx => WrR w3 tr ws v wx)
    case first =>
      go_wp2_with (fail)
      go_loopw [6, 7, 47] (fun v b k wr => ∃ (i B : Nat) (va : Option Addr) (vn vc : Nat) (xs : List (List Nat × SL)), i ≤ yn ∧ v = .slice va vn vc ∧ b = .int .i64 B ∧ k = .int .i64 i ∧ xs.map (·.1) = (ws.take i).map (fun u => placeT tr (u.take 12)) ∧ B = progL tr ((xs.map (·.1)).map natI) ∧ PRow wr w3.heap.size ⟨va, vn, vc⟩ xs ∧ Below w3.heap.size w3 wr ∧ (xs = [] → va = none ∧ vc = 0)) (fun _ _ k _ => yn - (intOf k).toNat)
      case atStart => exact ⟨0, b0, none, 0, 0, [], by omega, rfl, rfl, rfl, by simp, by rw [HB0.out, HTR.out]; rfl, PRow.nil _ _, Below.refl _ _, fun _ => ⟨rfl, rfl⟩⟩
      case round =>
        obtain ⟨i, B, va, vn, vc, xs, hi, rfl, rfl, rfl, hxs, hBp, hrow, hBr, hnil0⟩ := hrel
        obtain ⟨wo, rfl⟩ : ∃ wo : World, wo = wr := ⟨_, rfl⟩
        have HXS := Lib.hid hxs
        have HBP := Lib.hid hBp
        have HROW := Lib.hid hrow
        have HBR := Lib.hid hBr
        have HN0 := Lib.hid hnil0
        clear hxs hBp hrow hBr hnil0
        by_cases h1 : i < yn
        · obtain ⟨U0, hU0⟩ : ∃ u, ws[i]? = some u := ⟨_, List.getElem?_eq_getElem (by rw [← HYN.out]; exact h1)⟩
          obtain ⟨ad, ⟨ua, un, uc⟩, hya, hcu, hbu, hle, hnil⟩ := (HY3.out.below HBR.out).2 i U0 hU0
          simp only [SL.v] at hcu hbu hle hnil hya
          subst hya
          have hpbo := (HBR.out.block _ (HK.blk_lt HPB3.out)).trans HPB3.out
          have hpso := HS3.out.up HBR.out
          obtain ⟨U, hU⟩ : ∃ U, U = U0.take 12 := ⟨_, rfl⟩
          obtain ⟨m, hm⟩ : ∃ m, m = min un 12 := ⟨_, rfl⟩
          have hmU : m = U.length := by rw [hU, List.length_take, hm, hbu.1]; omega
          obtain ⟨pl, hpl⟩ : ∃ pl, pl = placeT tr U := ⟨_, rfl⟩
          have p0 : wo.cell? ⟨P, 0, none⟩ = some (.string rule) := HK.blk_cell hpbo 0
          have p1 : wo.cell? ⟨P, 1, none⟩ = some (.int .u8 op) := HK.blk_cell hpbo 1
          have p2 : wo.cell? ⟨P, 2, none⟩ = some (.string name) := HK.blk_cell hpbo 2
          have p3 : wo.cell? ⟨P, 3, none⟩ = some (.slice aa an ac) := HK.blk_cell hpbo 3
          have p4 : wo.cell? ⟨P, 4, none⟩ = some (.slice fa fn fc) := HK.blk_cell hpbo 4
          have p5 : wo.cell? ⟨P, 5, none⟩ = some (.int .i64 label) := HK.blk_cell hpbo 5
          have p6 : wo.cell? ⟨P, 6, none⟩ = some (.slice sa sn sc) := HK.blk_cell hpbo 6
          have p7 : wo.cell? ⟨P, 7, none⟩ = some (.slice ma mn mc) := HK.blk_cell hpbo 7
          have b0' : (0 : Int) ≤ (i : Int) := by omega
          have b1' : (i : Int) < (yn : Int) := by omega
          have HU0 := Lib.hid hU0
          have HBU := Lib.hid hbu
          have HPBO := Lib.hid hpbo
          have HPSO := Lib.hid hpso
          have HU := Lib.hid hU
          have HMM := Lib.hid hm
          have HMU := Lib.hid hmU
          have HPLA := Lib.hid hpl
          have HNIL := Lib.hid hnil
          clear hU0 hbu hpbo hpso hU hm hmU hpl hnil
          go_upto_region 13 with (fail)
          go_cut [56, 57, 58] from 48 to 58 (fun a b c wx => a = .slice ua m uc ∧ b = .int .i64 m ∧ c = .int .i64 0 ∧ wx = wo.alloc (.cells #[.string rule, .int .u8 op, .string name, .slice aa an ac, .slice fa fn fc, .int .i64 label, .slice sa sn sc, .slice ma mn mc] 30))
          case first =>
            cases ua with
            | none =>
              have hu0 : uc = 0 := HNIL.out rfl
              have hun : un = 0 := by omega
              have hm0 : m = 0 := by rw [HMM.out]; omega
              subst hu0 hun hm0
              go_wp2_with (fail)
              go_meet
              case rel => exact ⟨rfl, rfl, rfl, rfl⟩
            | some ua =>
              by_cases h12 : un ≤ 12
              · obtain rfl : m = un := by rw [HMM.out]; omega
                have z1 : (m : Int) ≤ 12 := by omega
                have z2 : min (m : Int) 12 = (m : Int) := by omega
                have z3 : (0 : Int) ≤ (m : Int) := by omega
                have z4 : (m : Int) ≤ (uc : Int) := by omega
                go_wp2_with (fail)
                go_meet
                case rel => exact ⟨rfl, rfl, rfl, rfl⟩
              · obtain rfl : m = 12 := by rw [HMM.out]; omega
                have z1 : ¬ (un : Int) ≤ 12 := by omega
                have z2 : min (un : Int) 12 = 12 := by omega
                have z4 : 12 ≤ uc := by omega
                have z5 : (12 : Int) ≤ (uc : Int) := by omega
                go_wp2_with (fail)
                go_meet
                case rel => exact ⟨rfl, rfl, rfl, rfl⟩
          case rest =>
            obtain ⟨rfl, rfl, rfl, hwq⟩ := hcut
            obtain ⟨Q, hQ⟩ : ∃ Q, Q = wo.heap.size := ⟨_, rfl⟩
            rw [← hQ]
            obtain ⟨wq, rfl⟩ : ∃ wq : World, wq = wc := ⟨_, rfl⟩
            have HQ := Lib.hid hQ
            have HWQ := Lib.hid hwq
            clear hQ hwq p0 p1 p2 p3 p4 p5 p6 p7
            go_upto_block 2 with (fail)
            go_cut [11] from 52 to 81 (fun v wx => ∃ (pa : Option Addr) (pn pc : Nat), v = .slice pa pn pc ∧ wx.ownsRow (Q + 1) 3 1 (.slice pa pn pc) pl.length (ints pl) ∧ Below Q wo wx)
            case first =>
              have hps2 : IsPs Q wq ⟨sa, sn, sc⟩ subs := by rw [HWQ.out, HQ.out]; exact HPSO.out.same (fun b hb => Below.heap_alloc wo _ b hb)
              have hbx2 : wq.heap[Q]? = some (.cells #[.string rule, .int .u8 op, .string name, .slice aa an ac, .slice fa fn fc, .int .i64 label, .slice sa sn sc, .slice ma mn mc] 30 (0, 0)) := by rw [HWQ.out, HQ.out]; exact HK.blk_new _ _
              have hbl2 : Below Q wo wq := by rw [HWQ.out]; exact (Below.refl Q wo).alloc (by rw [HQ.out]; exact Nat.le_refl _) _
              have hzq : wq.heap.size = Q + 1 := by rw [HWQ.out, HQ.out]; simp
              have HPS2 := Lib.hid hps2
              have HBX2 := Lib.hid hbx2
              have HBL2 := Lib.hid hbl2
              have HZQ := Lib.hid hzq
              clear hps2 hbx2 hbl2 hzq hcu
              go_wp2_with (fail)
              go_loopw [11, 58] (fun v j wr => ∃ (jn : Nat) (p0 : List Nat) (pa : Option Addr) (pn pc : Nat) (q : PT) (sq : SL), jn ≤ m ∧ v = .slice pa pn pc ∧ j = .int .i64 jn ∧ pl = p0 ++ placeT q (U.drop jn) ∧ p0.length ≤ jn ∧ IsPs Q wr sq q.subs ∧ sizeT q ≤ 300 ∧ wr.heap[Q]? = some (.cells (q.arr sq) 30 (0, 0)) ∧ wr.ownsRow (Q + 1) 3 1 (.slice pa pn pc) p0.length (ints p0) ∧ Below Q wo wr) (fun _ j _ => m - (intOf j).toNat)
              case atStart => exact ⟨0, [], none, 0, 0, .node rule ⟨op, name, ⟨aa, an, ac⟩, ⟨fa, fn, fc⟩, label, ⟨ma, mn, mc⟩⟩ subs, ⟨sa, sn, sc⟩, by omega, rfl, rfl, by rw [HPLA.out, HTR.out]; rfl, by simp, HPS2.out, by have := HSZ.out; omega, HBX2.out, World.ownsRow_nil _ _ _ _, HBL2.out⟩
              case round =>
                obtain ⟨jn, p0, pa, pn, pc, q, sq, hj, rfl, rfl, hpp, hp0, hS, hq3, hX, hown, hB⟩ := hrel
                obtain ⟨q, ⟨o2, n2, ⟨ba, bn, bc⟩, ⟨da, dn, dc⟩, l2, ⟨na, nn, nc⟩⟩, s2⟩ := q
                obtain ⟨ta, tn, tc⟩ := sq
                simp only [PT.arr, PT.rule, PT.o, PT.subs, SL.v] at hS hX
                have htn : tn = s2.length := hS.len
                have hxf := fun i => HK.blk_frozen hX i
                have x6 : wr.cell? ⟨Q, 6, none⟩ = some (.slice ta tn tc) := HK.blk_cell hX 6
                have HTN := Lib.hid htn
                have HS := Lib.hid hS
                have HX := Lib.hid hX
                have HOWN := Lib.hid hown
                have HBW := Lib.hid hB
                have HPP := Lib.hid hpp
                have HQ3 := Lib.hid hq3
                clear htn hS hX hown hB hpp hq3
                by_cases h2 : jn < m
                · obtain ⟨x, hx⟩ : ∃ x, U[jn]? = some x := ⟨_, List.getElem?_eq_getElem (by rw [← HMU.out]; exact h2)⟩
                  have hdr : U.drop jn = x :: U.drop (jn + 1) := by
                    obtain ⟨hl, he⟩ := List.getElem?_eq_some_iff.1 hx
                    rw [List.drop_eq_getElem_cons hl, he]
                  have hx0 : U0[jn]? = some x := by
                    have := hx
                    rw [HU.out, List.getElem?_take] at this
                    split at this
                    · exact this
                    · cases this
                  obtain ⟨hx255, ud, hua, hcx⟩ := HBU.out.2 jn x hx0
                  subst hua
                  have hcx2 : wr.cell? (ud.add jn) = some (.int .u8 x) := by
                    have hlt := World.block_lt_of_cell? wo _ hcx
                    exact (HBW.out.cell (by rw [HQ.out]; exact hlt)).trans hcx
                  have b3 : (0 : Int) ≤ (jn : Int) := by omega
                  have b4 : (jn : Int) < (m : Int) := by omega
                  have HDR := Lib.hid hdr
                  clear hx hx0 hdr hcx
                  by_cases h3 : tn = 0
                  · subst h3
                    go_wp2_with (fail)
                    go_meet
                    case rel =>
                      have hs0 : s2 = [] := List.length_eq_zero_iff.1 HTN.out.symm
                      have hpe : pl = p0 := by rw [HPP.out, hs0, placeT_stop (by rfl), List.append_nil]
                      exact ⟨pa, pn, pc, rfl, by rw [hpe]; exact HOWN.out, HBW.out⟩
                  · obtain ⟨k, hk⟩ : ∃ k, k = x % tn := ⟨_, rfl⟩
                    have hkt : k < tn := by rw [hk]; exact Nat.mod_lt _ (by omega)
                    obtain ⟨q2, hq2⟩ : ∃ q2, s2[k]? = some q2 := ⟨_, List.getElem?_eq_getElem (by rw [← HTN.out]; exact hkt)⟩
                    obtain ⟨g2, og, rfl⟩ := ps_addr HS.out hq2
                    obtain ⟨sv2, hc, hps⟩ := row_at HS.out hq2
                    have hsz2 : sizeT q2 ≤ 300 := by
                      have h9 := HQ3.out
                      rw [sizeT_eq] at h9
                      have := sizeF_mem hq2
                      simp only [PT.subs] at h9
                      omega
                    have htn3 : tn ≤ 300 := by
                      have h9 := HQ3.out
                      rw [sizeT_eq] at h9
                      have := sizeF_len s2
                      simp only [PT.subs] at h9
                      rw [HTN.out]; omega
                    have hpl2 : pl = (p0 ++ [k]) ++ placeT q2 (U.drop (jn + 1)) := by
                      have e1 : s2.length = tn := HTN.out.symm
                      rw [HPP.out, HDR.out, placeT_cons (q := q2) (by simp only [PT.subs]; rw [e1, ← hk]; exact hq2)]
                      simp only [PT.subs]; rw [e1, ← hk]; simp
                    have hg2 : g2 < Q := by
                      cases HS.out with
                      | nil => simp at hq2
                      | row g o c ts sv hg hc hs => exact hg
                    obtain ⟨r2, ⟨op2, name2, ⟨ea, en, ec⟩, ⟨ia, i2, ic⟩, label2, ⟨ka, kn, kc⟩⟩, s3⟩ := q2
                    obtain ⟨va2, vn2, vc2⟩ := sv2
                    simp only [PT.vals, PT.rule, PT.o, SL.v, PT.subs] at hc hps
                    have hcells : ∀ W : World, (∀ b, b < wr.heap.size → b ≠ Q → (Value.slice pa pn pc).ownBlock ≠ some b → W.heap[b]? = wr.heap[b]?) → ∀ (j : Nat) v, [Value.string r2, .int .u8 op2, .string name2, .slice ea en ec, .slice ia i2 ic, .int .i64 label2, .slice va2 vn2 vc2, .slice ka kn kc][j]? = some v → W.cell? ⟨g2, og + k * 8 + j, none⟩ = some v := fun W hW j v hv =>
                      (World.cell?_of_block (hW g2 (by have := HBW.out.size; have := HQ.out; omega) (by omega) (fun e => by have := (HOWN.out.lt _ e).1; omega))).trans (hc j v hv)
                    have HCELLS := Lib.hid hcells
                    have y0 : wr.cell? ⟨g2, og + k * 8, none⟩ = some (.string r2) := HCELLS.out wr (fun _ _ _ _ => rfl) 0 _ rfl
                    have y0' : ∀ o, (wr.alloc o).cell? ⟨g2, og + k * 8, none⟩ = some (.string r2) := fun o => HCELLS.out _ (fun b hb _ _ => Below.heap_alloc wr o b hb) 0 _ rfl
                    have y1 : wr.cell? ⟨g2, og + k * 8 + 1, none⟩ = some (.int .u8 op2) := HCELLS.out wr (fun _ _ _ _ => rfl) 1 _ rfl
                    have y1' : ∀ o, (wr.alloc o).cell? ⟨g2, og + k * 8 + 1, none⟩ = some (.int .u8 op2) := fun o => HCELLS.out _ (fun b hb _ _ => Below.heap_alloc wr o b hb) 1 _ rfl
                    have y2 : wr.cell? ⟨g2, og + k * 8 + 2, none⟩ = some (.string name2) := HCELLS.out wr (fun _ _ _ _ => rfl) 2 _ rfl
                    have y2' : ∀ o, (wr.alloc o).cell? ⟨g2, og + k * 8 + 2, none⟩ = some (.string name2) := fun o => HCELLS.out _ (fun b hb _ _ => Below.heap_alloc wr o b hb) 2 _ rfl
                    have y3 : wr.cell? ⟨g2, og + k * 8 + 3, none⟩ = some (.slice ea en ec) := HCELLS.out wr (fun _ _ _ _ => rfl) 3 _ rfl
                    have y3' : ∀ o, (wr.alloc o).cell? ⟨g2, og + k * 8 + 3, none⟩ = some (.slice ea en ec) := fun o => HCELLS.out _ (fun b hb _ _ => Below.heap_alloc wr o b hb) 3 _ rfl
                    have y4 : wr.cell? ⟨g2, og + k * 8 + 4, none⟩ = some (.slice ia i2 ic) := HCELLS.out wr (fun _ _ _ _ => rfl) 4 _ rfl
                    have y4' : ∀ o, (wr.alloc o).cell? ⟨g2, og + k * 8 + 4, none⟩ = some (.slice ia i2 ic) := fun o => HCELLS.out _ (fun b hb _ _ => Below.heap_alloc wr o b hb) 4 _ rfl
                    have y5 : wr.cell? ⟨g2, og + k * 8 + 5, none⟩ = some (.int .i64 label2) := HCELLS.out wr (fun _ _ _ _ => rfl) 5 _ rfl
                    have y5' : ∀ o, (wr.alloc o).cell? ⟨g2, og + k * 8 + 5, none⟩ = some (.int .i64 label2) := fun o => HCELLS.out _ (fun b hb _ _ => Below.heap_alloc wr o b hb) 5 _ rfl
                    have y6 : wr.cell? ⟨g2, og + k * 8 + 6, none⟩ = some (.slice va2 vn2 vc2) := HCELLS.out wr (fun _ _ _ _ => rfl) 6 _ rfl
                    have y6' : ∀ o, (wr.alloc o).cell? ⟨g2, og + k * 8 + 6, none⟩ = some (.slice va2 vn2 vc2) := fun o => HCELLS.out _ (fun b hb _ _ => Below.heap_alloc wr o b hb) 6 _ rfl
                    have y7 : wr.cell? ⟨g2, og + k * 8 + 7, none⟩ = some (.slice ka kn kc) := HCELLS.out wr (fun _ _ _ _ => rfl) 7 _ rfl
                    have y7' : ∀ o, (wr.alloc o).cell? ⟨g2, og + k * 8 + 7, none⟩ = some (.slice ka kn kc) := fun o => HCELLS.out _ (fun b hb _ _ => Below.heap_alloc wr o b hb) 7 _ rfl
                    have x6' : ∀ o, (wr.alloc o).cell? ⟨Q, 6, none⟩ = some (.slice (some ⟨g2, og, none⟩) tn tc) := fun o => HK.blk_cell (HK.blk_alloc HX.out o) 6
                    have hov : ∀ b, (Value.slice pa pn pc).ownBlock = some b → Q + 1 ≤ b ∧ b < wr.heap.size := fun b hb => HOWN.out.lt b hb
                    have HOV := Lib.hid hov
                    have hwb : IntKind.i64.wrap (x : Int) = (x : Int) := IntWalk.i64_in _ (by omega)
                    have hmod : (x : Int) % (tn : Int) = (k : Int) := by rw [hk, Int.natCast_emod]
                    have htm : (x : Int).tmod (tn : Int) = (k : Int) := by rw [Int.tmod_eq_emod_of_nonneg (by omega)]; exact hmod
                    have m5 : ((tn : Int) == 0) = false := by simp; omega
                    have m6 : ¬ (tn : Int) = 0 := by omega
                    have m9 : (0 : Int) < (tn : Int) := by omega
                    have m10 : (0 : Int) ≤ (x : Int) := by omega
                    have z3 : (0 : Int) ≤ (k : Int) := by omega
                    have z4 : (k : Int) < (tn : Int) := by omega
                    have HPS3 := Lib.hid hps
                    have HPL2 := Lib.hid hpl2
                    have hp0l : p0.length ≤ 12 := by have := HMM.out; omega
                    have hm12 : m ≤ 12 := by have := HMM.out; omega
                    have hQl : Q < wr.heap.size := HK.blk_lt HX.out
                    clear hk hq2 hc hps hpl2 hcells hov hxf
                    go_upto_region 18 with (fail)
                    go_region_law
                      ((refine HK.step_app1 (by rfl) elem3 _ _ (by rfl) (.slice pa pn pc) p0.length (ints p0) (by rfl) (row_mono (HOWN.out.alloc _) (Nat.zero_le _)) wr.heap.size 1 #[.int .i64 k] (by rfl) (HK.blk_new _ _) (by rfl) (by simp [Value.oneCell']) (by simp only [maxLen]; omega) (by omega) ?_
                        intro gg cap w7 hown7 hgrow hat hlt
                        have hT7 := HK.blk_grown2 hgrow (HK.blk_alloc HX.out _) (fun e => by have := (HOV.out _ e.symm).1; omega)
                        have x0'' : w7.cell? ⟨Q, 0, none⟩ = some (.string q) := HK.blk_cell hT7 0
                        have x1'' : w7.cell? ⟨Q, 1, none⟩ = some (.int .u8 o2) := HK.blk_cell hT7 1
                        have x2'' : w7.cell? ⟨Q, 2, none⟩ = some (.string n2) := HK.blk_cell hT7 2
                        have x3'' : w7.cell? ⟨Q, 3, none⟩ = some (.slice ba bn bc) := HK.blk_cell hT7 3
                        have x4'' : w7.cell? ⟨Q, 4, none⟩ = some (.slice da dn dc) := HK.blk_cell hT7 4
                        have x5'' : w7.cell? ⟨Q, 5, none⟩ = some (.int .i64 l2) := HK.blk_cell hT7 5
                        have x6'' : w7.cell? ⟨Q, 6, none⟩ = some (.slice (some ⟨g2, og, none⟩) tn tc) := HK.blk_cell hT7 6
                        have x7'' : w7.cell? ⟨Q, 7, none⟩ = some (.slice na nn nc) := HK.blk_cell hT7 7
                        have hxf := fun i => HK.blk_frozen hT7 i
                        have hz7 : ∀ b, b < wr.heap.size → b ≠ Q → (Value.slice pa pn pc).ownBlock ≠ some b → w7.heap[b]? = wr.heap[b]? := fun b hb h2 h3 => (hgrow.block b (by simp; omega) (fun e => h3 e.symm)).trans (Below.heap_alloc wr _ b hb)
                        have y0'' : w7.cell? ⟨g2, og + k * 8, none⟩ = some (.string r2) := HCELLS.out w7 hz7 0 _ rfl
                        have y1'' : w7.cell? ⟨g2, og + k * 8 + 1, none⟩ = some (.int .u8 op2) := HCELLS.out w7 hz7 1 _ rfl
                        have y2'' : w7.cell? ⟨g2, og + k * 8 + 2, none⟩ = some (.string name2) := HCELLS.out w7 hz7 2 _ rfl
                        have y3'' : w7.cell? ⟨g2, og + k * 8 + 3, none⟩ = some (.slice ea en ec) := HCELLS.out w7 hz7 3 _ rfl
                        have y4'' : w7.cell? ⟨g2, og + k * 8 + 4, none⟩ = some (.slice ia i2 ic) := HCELLS.out w7 hz7 4 _ rfl
                        have y5'' : w7.cell? ⟨g2, og + k * 8 + 5, none⟩ = some (.int .i64 label2) := HCELLS.out w7 hz7 5 _ rfl
                        have y6'' : w7.cell? ⟨g2, og + k * 8 + 6, none⟩ = some (.slice va2 vn2 vc2) := HCELLS.out w7 hz7 6 _ rfl
                        have y7'' : w7.cell? ⟨g2, og + k * 8 + 7, none⟩ = some (.slice ka kn kc) := HCELLS.out w7 hz7 7 _ rfl
                        have HT7 := Lib.hid hT7
                        have HOW := Lib.hid hown7
                        have HGR := Lib.hid hgrow
                        have HAT := Lib.hid hat
                        have HZ7 := Lib.hid hz7
                        clear hT7 hown7 hgrow hat hz7))
                    all_goals (
                      have hi := inner_end (v := ⟨pa, pn, pc⟩) (n1 := p0.length + 1) HBW.out HX.out HOWN.out HPS3.out (by first | exact (bl_ad _ _).mono (by omega) | exact (Below.refl Q wr).alloc (by omega) _) (by simp) HGR.out HOW.out HAT.out HT7.out HZ7.out (.string r2) (.int .u8 op2) (.string name2) (.slice ea en ec) (.slice ia i2 ic) (.int .i64 label2) (.slice va2 vn2 vc2) (.slice ka kn kc) rfl rfl
                      have HI := Lib.hid hi
                      clear hi
                      go_wp2_with (fail)
                      go_roundw
                      case rel => exact ⟨jn + 1, p0 ++ [k], some ⟨gg, 0, none⟩, p0.length + 1, cap, .node r2 ⟨op2, name2, ⟨ea, en, ec⟩, ⟨ia, i2, ic⟩, label2, ⟨ka, kn, kc⟩⟩ s3, ⟨va2, vn2, vc2⟩, by omega, rfl, by go_num, HPL2.out, by simp; omega, HI.out.1, hsz2, HI.out.2.1, by rw [List.length_append, List.length_singleton]; exact HI.out.2.2.1, HI.out.2.2.2⟩
                      case measure => simp [intOf]; omega)
                · obtain rfl : jn = m := by omega
                  have b4 : ¬ ((jn : Int) < (jn : Int)) := by omega
                  go_wp2_with (fail)
                  go_meet
                  case rel =>
                    have hpe : pl = p0 := by rw [HPP.out, List.drop_of_length_le (by rw [← HMU.out]; exact Nat.le_refl _)]; simp [placeT]
                    exact ⟨pa, pn, pc, rfl, by rw [hpe]; exact HOWN.out, HBW.out⟩
            case rest =>
              obtain ⟨pa, pn, pc, rfl, hown, hBq⟩ := hcut
              obtain ⟨wi, rfl⟩ : ∃ wi : World, wi = wc := ⟨_, rfl⟩
              have hrow2 : PRow wi w3.heap.size ⟨va, vn, vc⟩ xs := HROW.out.below (by rw [← HQ.out]; exact hBq)
              have hplace : PlaceB wi ⟨pa, pn, pc⟩ pl := row_mono hown (Nat.zero_le _)
              have hvn : vn = xs.length := hrow2.form
              have hxl : xs.length = i := by
                have := congrArg List.length HXS.out
                simp only [List.length_map, List.length_take] at this
                have := HYN.out
                omega
              have hws : ws.take (i + 1) = ws.take i ++ [U0] := by rw [List.take_add_one, HU0.out]; rfl
              have hxs1 : (xs ++ [(pl, (⟨pa, pn, pc⟩ : SL))]).map (·.1) = (ws.take (i + 1)).map (fun u => placeT tr (u.take 12)) := by
                rw [hws, List.map_append, List.map_append, HXS.out, HPLA.out, HU.out]; rfl
              have hz3 : w3.heap.size ≤ wi.heap.size := by have := HBR.out.size; have := hBq.size; have := HQ.out; omega
              have hb3i : Below w3.heap.size w3 wi := HBR.out.trans (hBq.mono (by have := HBR.out.size; rw [HQ.out]; exact this))
              subst hvn
              have HROW2 := Lib.hid hrow2
              have HPLC := Lib.hid hplace
              have HXL := Lib.hid hxl
              have HXS1 := Lib.hid hxs1
              have HZ3 := Lib.hid hz3
              have HB3I := Lib.hid hb3i
              have hx6 : xs.length ≤ 5 := by omega
              clear hown hBq hrow2 hplace hxl hws hxs1 hz3 hb3i
              go_upto_region 21 with (
                at_builtin
                refine HK.wpList_app1 rfl elem37 _ _ rfl (.slice va xs.length vc) xs.length (xs.map fun x => x.2.v) rfl (row_mono (HROW2.out.1.alloc _) (Nat.zero_le _)) wi.heap.size 1 #[.slice pa pn pc] rfl (HK.blk_new _ _) rfl (by simp [Value.oneCell']) (by simp only [maxLen]; omega) (by omega) ?_
                intro gg cap w7 hown7 hgrow hat hlt)
              obtain ⟨hrow7, hB7⟩ := elem_next (x := (pl, (⟨pa, pn, pc⟩ : SL))) HROW2.out HZ3.out HPLC.out hgrow hown7 hat
              have hB37 := HB3I.out.trans hB7
              have hS7 := HS3.out.up hB37
              have hpb7 := (hB37.block _ (HK.blk_lt HPB3.out)).trans HPB3.out
              obtain ⟨xs1, hx1⟩ : ∃ xs1, xs1 = xs ++ [(pl, (⟨pa, pn, pc⟩ : SL))] := ⟨_, rfl⟩
              rw [← hx1] at hrow7
              have hxs2 := HXS1.out
              rw [← hx1] at hxs2
              have hpo : PlacesOf (.node rule ⟨op, name, ⟨aa, an, ac⟩, ⟨fa, fn, fc⟩, label, ⟨ma, mn, mc⟩⟩ subs) (xs1.map (·.1)) := by rw [hxs2, ← HTR.out]; exact placesOf_map tr _
              have hpl12 : ∀ p ∈ xs1.map (·.1), p.length ≤ 12 := by rw [hxs2]; exact placesLen tr _
              have hc7 := HP.out w7 ⟨sa, sn, sc⟩ ⟨some ⟨gg, 0, none⟩, xs.length + 1, cap⟩ (xs1.map (·.1)) hS7 hrow7.isW hpo (by rw [hx1]; simp; omega) (fun p hp => by have := hpl12 p hp; omega)
              simp only [SL.v] at hc7
              obtain ⟨N, hN⟩ : ∃ N, N = progL (.node rule ⟨op, name, ⟨aa, an, ac⟩, ⟨fa, fn, fc⟩, label, ⟨ma, mn, mc⟩⟩ subs) ((xs1.map (·.1)).map natI) := ⟨_, rfl⟩
              rw [← hN] at hc7
              have hNB : N ≤ B := by
                rw [hN, HBP.out, HTR.out]
                have e : xs1.map (·.1) = xs.map (·.1) ++ [pl] := by rw [hx1]; simp
                rw [e] at hpo ⊢
                exact prog_more HM.out hpo
              have hne : xs1 ≠ [] := by rw [hx1]; simp
              have HNE := Lib.hid hne
              clear hne
              have HC7 := Lib.hid hc7
              have HN := Lib.hid hN
              have HROW7 := Lib.hid hrow7
              have HB37 := Lib.hid hB37
              have HXS2 := Lib.hid hxs2
              have p0 : w7.cell? ⟨P, 0, none⟩ = some (.string rule) := HK.blk_cell hpb7 0
              have p1 : w7.cell? ⟨P, 1, none⟩ = some (.int .u8 op) := HK.blk_cell hpb7 1
              have p2 : w7.cell? ⟨P, 2, none⟩ = some (.string name) := HK.blk_cell hpb7 2
              have p3 : w7.cell? ⟨P, 3, none⟩ = some (.slice aa an ac) := HK.blk_cell hpb7 3
              have p4 : w7.cell? ⟨P, 4, none⟩ = some (.slice fa fn fc) := HK.blk_cell hpb7 4
              have p5 : w7.cell? ⟨P, 5, none⟩ = some (.int .i64 label) := HK.blk_cell hpb7 5
              have p6 : w7.cell? ⟨P, 6, none⟩ = some (.slice sa sn sc) := HK.blk_cell hpb7 6
              have p7 : w7.cell? ⟨P, 7, none⟩ = some (.slice ma mn mc) := HK.blk_cell hpb7 7
              clear hN hpo hpl12 hc7 hrow7 hB37 hxs2 hS7 hpb7 hB7 hx1 hgrow hown7 hat
              go_upto_region 22 with (go_at_call 17; (refine HC7.out.mono ?_; rintro e w8 ⟨rfl, hB8⟩))
              have n1 : ¬ (B < N) := by omega
              have n2 : ¬ ((B : Int) < (N : Int)) := by omega
              have n3 : decide (B < N) = false := decide_eq_false n1
              have n4 : decide ((B : Int) < (N : Int)) = false := decide_eq_false n2
              have hB38 := HB37.out.trans (hB8.mono HB37.out.size)
              have HB38 := Lib.hid hB38
              have HROW8 := Lib.hid (HROW7.out.below hB8)
              clear hB38 hB8
              go_wp2_with (fail)
              go_roundw
              case rel => exact ⟨i + 1, N, some ⟨gg, 0, none⟩, xs.length + 1, cap, xs1, by omega, rfl, rfl, by go_num, HXS2.out, by rw [HN.out, HTR.out], HROW8.out, HB38.out, fun h => absurd h HNE.out⟩
              case measure => simp [intOf]; omega
        · obtain rfl : i = yn := by omega
          have b1' : ¬ ((i : Int) < (i : Int)) := by omega
          go_wp2_with (fail)
          go_meet
          case rel => exact ⟨va, vn, vc, xs, rfl, by rw [HXS.out, List.take_of_length_le (by rw [← HYN.out]; exact Nat.le_refl _)], HROW.out, HBR.out, HN0.out⟩
    case rest =>
      obtain ⟨va, vn, vc, xs, rfl, hxs, hrow, hBz, hn0⟩ := hcut
      obtain ⟨wz, rfl⟩ : ∃ wz : World, wz = wc := ⟨_, rfl⟩
      have hvn : vn = xs.length := hrow.form
      have hxl : xs.length = ws.length := by simpa using congrArg List.length hxs
      have hvy : vn = yn := by rw [hvn, hxl, HYN.out]
      obtain ⟨ps, hps⟩ : ∃ ps, ps = xs.map (·.1) := ⟨_, rfl⟩
      have hpn : ps.length = vn := by rw [hps, List.length_map, hvn]
      have hpo : PlacesOf tr ps := by rw [hps, hxs]; exact placesOf_map tr _
      have hp12 : ∀ p ∈ ps, p.length ≤ 12 := by rw [hps, hxs]; exact placesLen tr _
      have hpz := (hBz.block _ (HK.blk_lt HPB3.out)).trans HPB3.out
      have hsz := HS3.out.up hBz
      obtain ⟨C, hC⟩ : ∃ C, C = wz.heap.size := ⟨_, rfl⟩
      have h6z : vn ≤ 6 := by omega
      have hbz := below_then HB3.out hBz
      have HROW := Lib.hid hrow
      have HN0 := Lib.hid hn0
      have HVN := Lib.hid hvn
      have HPS := Lib.hid hps
      have HPN := Lib.hid hpn
      have HPO := Lib.hid hpo
      have HP12 := Lib.hid hp12
      have HPZ := Lib.hid hpz
      have HSZ2 := Lib.hid hsz
      have HC := Lib.hid hC
      have HBZ := Lib.hid hbz
      have p0 : wz.cell? ⟨P, 0, none⟩ = some (.string rule) := HK.blk_cell hpz 0
      have p1 : wz.cell? ⟨P, 1, none⟩ = some (.int .u8 op) := HK.blk_cell hpz 1
      have p2 : wz.cell? ⟨P, 2, none⟩ = some (.string name) := HK.blk_cell hpz 2
      have p3 : wz.cell? ⟨P, 3, none⟩ = some (.slice aa an ac) := HK.blk_cell hpz 3
      have p4 : wz.cell? ⟨P, 4, none⟩ = some (.slice fa fn fc) := HK.blk_cell hpz 4
      have p5 : wz.cell? ⟨P, 5, none⟩ = some (.int .i64 label) := HK.blk_cell hpz 5
      have p6 : wz.cell? ⟨P, 6, none⟩ = some (.slice sa sn sc) := HK.blk_cell hpz 6
      have p7 : wz.cell? ⟨P, 7, none⟩ = some (.slice ma mn mc) := HK.blk_cell hpz 7
      clear hxs hrow hBz hn0 hvn hxl hvy hps hpn hpo hp12 hpz hsz hC hbz
      go_upto_block 4 with (fail)
      rw [← HC.out]
      go_cut [104] from 102 to 120 (fun k wx => CutR wz C (cutT ps [] tr) wx)
      case first =>
        have hst : CutR wz C (cutT [] [] tr) (wz.alloc (.cells #[.string rule, .int .u8 op, .string name, .slice aa an ac, .slice fa fn fc, .int .i64 label, .slice sa sn sc, .slice ma mn mc] 30)) := by
          rw [cut_nil, HTR.out]
          refine ⟨⟨sa, sn, sc⟩, ?_, ?_, ?_⟩
          · rw [HC.out]; exact HK.blk_new _ _
          · exact HSZ2.out.pq.turn fun b hb => ⟨⟨by simp; omega, by rw [HC.out]; omega⟩, Below.heap_alloc wz _ b hb⟩
          · rw [HC.out]; exact (Below.refl _ wz).alloc (Nat.le_refl _) _
        have HST := Lib.hid hst
        clear hst p0 p1 p2 p3 p4 p5 p6 p7
        go_wp2_with (fail)
        go_loopw [104] (fun k wr => ∃ j : Nat, j ≤ vn ∧ k = .int .i64 j ∧ CutR wz C (cutT (ps.take j) [] tr) wr) (fun k _ => vn - (intOf k).toNat)
        case atStart => exact ⟨0, by omega, rfl, by rw [List.take_zero]; exact HST.out⟩
        case round =>
          obtain ⟨j, hj, rfl, hcr⟩ := hrel
          by_cases h1 : j < vn
          · obtain ⟨⟨p, ⟨la, ln, lc⟩⟩, hx⟩ : ∃ x, xs[j]? = some x := ⟨_, List.getElem?_eq_getElem (by have := HVN.out; omega)⟩
            have hpj : ps[j]? = some p := by rw [HPS.out, List.getElem?_map, hx]; rfl
            obtain ⟨sq, hbx, hq, hBl⟩ := hcr
            obtain ⟨g, hg, hc, hpb⟩ := (HROW.out.below (W' := wr) (by rw [← HC.out]; exact hBl)).at hx
            simp only at hg
            subst hg
            simp only [SL.v] at hc
            have htk : ps.take (j + 1) = ps.take j ++ [p] := by rw [List.take_add_one, hpj]; rfl
            have hw0 := with_cut (t := tr) (ps := ps.take j) (p := p) (f := 12) (by rw [HTR.out]; exact HFIT.out) (by omega) (by rw [HTR.out]; have := HSZ.out; omega) (HPO.out p (List.mem_of_getElem? hpj))
            rw [← htk] at hw0
            obtain ⟨cu, hcu⟩ : ∃ cu, cu = cutT (ps.take j) [] tr := ⟨_, rfl⟩
            have hcz : sizeT cu ≤ 181 := by rw [hcu]; refine Nat.le_trans (cut_size _ _ _) ?_; rw [HTR.out]; exact HSZ.out
            have hcp : plainT cu := by rw [hcu]; exact cut_plain _ _ _ (by rw [HTR.out]; exact HPL.out)
            rw [← hcu] at hbx hq hw0
            have hp12 := HP12.out p (List.mem_of_getElem? hpj)
            have hWC := fun (W : World) (hB : Below wr.heap.size wr W) => with_new W cu holeT sq SL.nil ⟨la, ln, lc⟩ (natI p) ((hq.ps (n0 := wr.heap.size) fun b hb => hb.1).up hB) (IsPs.nil none 0) (hpb.isI.below hB) (by simp only [natI, List.length_map]; omega) (by omega) (by simp [holeT, sizeT, sizeF]) hcp plain_hole
            obtain ⟨⟨rc, R⟩, hR⟩ : ∃ r, r = withR cu holeT (natI p) := ⟨_, rfl⟩
            rw [← hR] at hw0
            simp only [← hR] at hWC
            unfold RetWq at hWC
            obtain ⟨Rr, ⟨Ro, Rn, ⟨ba, bn, bc⟩, ⟨da, dn, dc⟩, Rl, ⟨na, nn, nc⟩⟩, Rs⟩ := R
            obtain ⟨ur, ⟨uo, un, ⟨ea, en, ec⟩, ⟨ia, i2, ic⟩, ul, ⟨ka, kn, kc⟩⟩, us⟩ := cu
            obtain ⟨ta, tn, tc⟩ := sq
            simp only [PT.arr, PT.rule, PT.o, PT.subs, SL.v, holeT, PO.nil, SL.nil] at hWC hbx hq
            have hh := fun W => hole_exact W
            simp only [holeT, PT.arr, PT.rule, PT.o, PO.nil, SL.nil, SL.v] at hh
            have x0 : wr.cell? ⟨C, 0, none⟩ = some (.string ur) := HK.blk_cell hbx 0
            have x0' : ∀ o, (wr.alloc o).cell? ⟨C, 0, none⟩ = some (.string ur) := fun o => HK.blk_cell (HK.blk_alloc hbx o) 0
            have x0'' : ∀ o o2, ((wr.alloc o).alloc o2).cell? ⟨C, 0, none⟩ = some (.string ur) := fun o o2 => HK.blk_cell (HK.blk_alloc (HK.blk_alloc hbx o) o2) 0
            have x1 : wr.cell? ⟨C, 1, none⟩ = some (.int .u8 uo) := HK.blk_cell hbx 1
            have x1' : ∀ o, (wr.alloc o).cell? ⟨C, 1, none⟩ = some (.int .u8 uo) := fun o => HK.blk_cell (HK.blk_alloc hbx o) 1
            have x1'' : ∀ o o2, ((wr.alloc o).alloc o2).cell? ⟨C, 1, none⟩ = some (.int .u8 uo) := fun o o2 => HK.blk_cell (HK.blk_alloc (HK.blk_alloc hbx o) o2) 1
            have x2 : wr.cell? ⟨C, 2, none⟩ = some (.string un) := HK.blk_cell hbx 2
            have x2' : ∀ o, (wr.alloc o).cell? ⟨C, 2, none⟩ = some (.string un) := fun o => HK.blk_cell (HK.blk_alloc hbx o) 2
            have x2'' : ∀ o o2, ((wr.alloc o).alloc o2).cell? ⟨C, 2, none⟩ = some (.string un) := fun o o2 => HK.blk_cell (HK.blk_alloc (HK.blk_alloc hbx o) o2) 2
            have x3 : wr.cell? ⟨C, 3, none⟩ = some (.slice ea en ec) := HK.blk_cell hbx 3
            have x3' : ∀ o, (wr.alloc o).cell? ⟨C, 3, none⟩ = some (.slice ea en ec) := fun o => HK.blk_cell (HK.blk_alloc hbx o) 3
            have x3'' : ∀ o o2, ((wr.alloc o).alloc o2).cell? ⟨C, 3, none⟩ = some (.slice ea en ec) := fun o o2 => HK.blk_cell (HK.blk_alloc (HK.blk_alloc hbx o) o2) 3
            have x4 : wr.cell? ⟨C, 4, none⟩ = some (.slice ia i2 ic) := HK.blk_cell hbx 4
            have x4' : ∀ o, (wr.alloc o).cell? ⟨C, 4, none⟩ = some (.slice ia i2 ic) := fun o => HK.blk_cell (HK.blk_alloc hbx o) 4
            have x4'' : ∀ o o2, ((wr.alloc o).alloc o2).cell? ⟨C, 4, none⟩ = some (.slice ia i2 ic) := fun o o2 => HK.blk_cell (HK.blk_alloc (HK.blk_alloc hbx o) o2) 4
            have x5 : wr.cell? ⟨C, 5, none⟩ = some (.int .i64 ul) := HK.blk_cell hbx 5
            have x5' : ∀ o, (wr.alloc o).cell? ⟨C, 5, none⟩ = some (.int .i64 ul) := fun o => HK.blk_cell (HK.blk_alloc hbx o) 5
            have x5'' : ∀ o o2, ((wr.alloc o).alloc o2).cell? ⟨C, 5, none⟩ = some (.int .i64 ul) := fun o o2 => HK.blk_cell (HK.blk_alloc (HK.blk_alloc hbx o) o2) 5
            have x6 : wr.cell? ⟨C, 6, none⟩ = some (.slice ta tn tc) := HK.blk_cell hbx 6
            have x6' : ∀ o, (wr.alloc o).cell? ⟨C, 6, none⟩ = some (.slice ta tn tc) := fun o => HK.blk_cell (HK.blk_alloc hbx o) 6
            have x6'' : ∀ o o2, ((wr.alloc o).alloc o2).cell? ⟨C, 6, none⟩ = some (.slice ta tn tc) := fun o o2 => HK.blk_cell (HK.blk_alloc (HK.blk_alloc hbx o) o2) 6
            have x7 : wr.cell? ⟨C, 7, none⟩ = some (.slice ka kn kc) := HK.blk_cell hbx 7
            have x7' : ∀ o, (wr.alloc o).cell? ⟨C, 7, none⟩ = some (.slice ka kn kc) := fun o => HK.blk_cell (HK.blk_alloc hbx o) 7
            have x7'' : ∀ o o2, ((wr.alloc o).alloc o2).cell? ⟨C, 7, none⟩ = some (.slice ka kn kc) := fun o o2 => HK.blk_cell (HK.blk_alloc (HK.blk_alloc hbx o) o2) 7
            have b0 : (0 : Int) ≤ (j : Int) := by omega
            have b1 : (j : Int) < (vn : Int) := by omega
            have hCr : C < wr.heap.size := HK.blk_lt hbx
            have HH := Lib.hid hh
            have HWC := Lib.hid hWC
            have HBX := Lib.hid hbx
            have HQ2 := Lib.hid hq
            have HBL := Lib.hid hBl
            have HW0 := Lib.hid hw0
            clear hx hpj hpb htk hcu hcz hcp hp12 hR hh hWC hbx hq hBl hw0
            go_upto_region 30 with (fail)
            go_cut [21, 22] from 108 to 114 (fun v c wx => ∃ (D : Nat) (qa : Option Addr) (qn qc : Nat), v = .pointer (some ⟨D, 0, none⟩) ∧ c = .int .i64 (rc : Nat) ∧ wr.heap.size ≤ D ∧ wx.heap[D]? = some (.cells #[.string Rr, .int .u8 Ro, .string Rn, .slice ba bn bc, .slice da dn dc, .int .i64 Rl, .slice qa qn qc, .slice na nn nc] 30 (0, 0)) ∧ IsPq (fun b => wr.heap.size ≤ b ∧ b < wx.heap.size ∧ b ≠ D) wx ⟨qa, qn, qc⟩ Rs ∧ Below wr.heap.size wr wx)
            case first =>
              go_region_law ((go_simp
                              first
                                | (go_at_call 25; refine (HH.out _).mono ?_; rintro e w' ⟨rfl, rfl⟩)
                                | (go_at_call 24
                                   refine (HWC.out _ (by repeat (first | exact Below.refl _ _ | apply bl_al | apply bl_dr))).mono ?_
                                   rintro e w8 ⟨⟨qa, qn, qc⟩, rfl, hq8, hB8⟩
                                   have hb2 := below_then (a := wr) (c := w8) (by repeat (first | exact Below.refl _ _ | apply bl_al | apply bl_dr)) hB8
                                   have HB2 := Lib.hid hb2
                                   first
                                   | (have hz : w8.heap[wr.heap.size + 1]? = some (.cells #[.string ⟨#[]⟩, .int .u8 0, .string ⟨#[]⟩, .slice none 0 0, .slice none 0 0, .int .i64 0, .slice none 0 0, .slice none 0 0] 30 (0, 0)) := (hB8.block _ (by first | (simp; done) | (simp; omega) | (show _ < ((wr.alloc _).alloc _).heap.size; simp; done) | (show _ < ((wr.alloc _).alloc _).heap.size; simp; omega))).trans (blk_new1 _ _ _)
                                      have z0 : w8.cell? ⟨wr.heap.size + 1, 0, none⟩ = some (.string ⟨#[]⟩) := HK.blk_cell hz 0
                                      have z1 : w8.cell? ⟨wr.heap.size + 1, 1, none⟩ = some (.int .u8 0) := HK.blk_cell hz 1
                                      have z2 : w8.cell? ⟨wr.heap.size + 1, 2, none⟩ = some (.string ⟨#[]⟩) := HK.blk_cell hz 2
                                      have z3 : w8.cell? ⟨wr.heap.size + 1, 3, none⟩ = some (.slice none 0 0) := HK.blk_cell hz 3
                                      have z4 : w8.cell? ⟨wr.heap.size + 1, 4, none⟩ = some (.slice none 0 0) := HK.blk_cell hz 4
                                      have z5 : w8.cell? ⟨wr.heap.size + 1, 5, none⟩ = some (.int .i64 0) := HK.blk_cell hz 5
                                      have z6 : w8.cell? ⟨wr.heap.size + 1, 6, none⟩ = some (.slice none 0 0) := HK.blk_cell hz 6
                                      have z7 : w8.cell? ⟨wr.heap.size + 1, 7, none⟩ = some (.slice none 0 0) := HK.blk_cell hz 7
                                      have hzf := fun i => HK.blk_frozen hz i
                                      have hq2 : IsPq (fun k => wr.heap.size + 2 ≤ k ∧ k < w8.heap.size) w8 ⟨qa, qn, qc⟩ Rs := hq8.turn fun b hb => ⟨⟨by have h9 := hb.1; first | (simp at h9; omega) | omega | (change ((wr.alloc _).alloc _).heap.size ≤ b at h9; simp at h9; omega), hb.2⟩, rfl⟩
                                      have HZ := Lib.hid hz
                                      have HQ3 := Lib.hid hq2
                                      clear hz hq2)
                                   | (have hz : w8.heap[wr.heap.size]? = some (.cells #[.string ⟨#[]⟩, .int .u8 0, .string ⟨#[]⟩, .slice none 0 0, .slice none 0 0, .int .i64 0, .slice none 0 0, .slice none 0 0] 30 (0, 0)) := (hB8.block _ (by first | (simp; done) | (simp; omega) | (show _ < ((wr.alloc _).alloc _).heap.size; simp; done) | (show _ < ((wr.alloc _).alloc _).heap.size; simp; omega))).trans (HK.blk_alloc (HK.blk_new _ _) _)
                                      have z0 : w8.cell? ⟨wr.heap.size, 0, none⟩ = some (.string ⟨#[]⟩) := HK.blk_cell hz 0
                                      have z1 : w8.cell? ⟨wr.heap.size, 1, none⟩ = some (.int .u8 0) := HK.blk_cell hz 1
                                      have z2 : w8.cell? ⟨wr.heap.size, 2, none⟩ = some (.string ⟨#[]⟩) := HK.blk_cell hz 2
                                      have z3 : w8.cell? ⟨wr.heap.size, 3, none⟩ = some (.slice none 0 0) := HK.blk_cell hz 3
                                      have z4 : w8.cell? ⟨wr.heap.size, 4, none⟩ = some (.slice none 0 0) := HK.blk_cell hz 4
                                      have z5 : w8.cell? ⟨wr.heap.size, 5, none⟩ = some (.int .i64 0) := HK.blk_cell hz 5
                                      have z6 : w8.cell? ⟨wr.heap.size, 6, none⟩ = some (.slice none 0 0) := HK.blk_cell hz 6
                                      have z7 : w8.cell? ⟨wr.heap.size, 7, none⟩ = some (.slice none 0 0) := HK.blk_cell hz 7
                                      have hzf := fun i => HK.blk_frozen hz i
                                      have hq2 : IsPq (fun k => wr.heap.size + 2 ≤ k ∧ k < w8.heap.size) w8 ⟨qa, qn, qc⟩ Rs := hq8.turn fun b hb => ⟨⟨by have h9 := hb.1; first | (simp at h9; omega) | omega | (change ((wr.alloc _).alloc _).heap.size ≤ b at h9; simp at h9; omega), hb.2⟩, rfl⟩
                                      have HZ := Lib.hid hz
                                      have HQ3 := Lib.hid hq2
                                      clear hz hq2)
                                   | (have hq2 : IsPq (fun k => wr.heap.size + 1 ≤ k ∧ k < w8.heap.size) w8 ⟨qa, qn, qc⟩ Rs := hq8.turn fun b hb => ⟨⟨by have h9 := hb.1; first | (simp at h9; omega) | omega | (change (wr.alloc _).heap.size ≤ b at h9; simp at h9; omega), hb.2⟩, rfl⟩
                                      have HQ3 := Lib.hid hq2
                                      clear hq2)
                                   clear hq8 hB8 hb2)))
              all_goals (go_wp2_with (fail); go_meet)
              all_goals first
                | exact ⟨_, qa, qn, qc, rfl, rfl, cut_endA HZ.out (by omega) (by omega) HQ3.out HB2.out _ _ _ _ _ _ _ _ rfl⟩
                | exact ⟨_, qa, qn, qc, rfl, rfl, cut_endB HQ3.out HB2.out _⟩
            case rest =>
              obtain ⟨D, qa, qn, qc, rfl, rfl, hD, hdb, hq8, hBx⟩ := hcut
              obtain ⟨wd, rfl⟩ : ∃ wd : World, wd = wc := ⟨_, rfl⟩
              have hbc := (hBx.block _ (HK.blk_lt HBX.out)).trans HBX.out
              have hxf := fun i => HK.blk_frozen hbc i
              have HD := Lib.hid hD
              have HBC := Lib.hid hbc
              have HQ8 := Lib.hid hq8
              have HBW := Lib.hid hBx
              have e0 : wd.cell? ⟨D, 0, none⟩ = some (.string Rr) := HK.blk_cell hdb 0
              have e1 : wd.cell? ⟨D, 1, none⟩ = some (.int .u8 Ro) := HK.blk_cell hdb 1
              have e2 : wd.cell? ⟨D, 2, none⟩ = some (.string Rn) := HK.blk_cell hdb 2
              have e3 : wd.cell? ⟨D, 3, none⟩ = some (.slice ba bn bc) := HK.blk_cell hdb 3
              have e4 : wd.cell? ⟨D, 4, none⟩ = some (.slice da dn dc) := HK.blk_cell hdb 4
              have e5 : wd.cell? ⟨D, 5, none⟩ = some (.int .i64 Rl) := HK.blk_cell hdb 5
              have e6 : wd.cell? ⟨D, 6, none⟩ = some (.slice qa qn qc) := HK.blk_cell hdb 6
              have e7 : wd.cell? ⟨D, 7, none⟩ = some (.slice na nn nc) := HK.blk_cell hdb 7
              have c0 : wd.cell? ⟨C, 0, none⟩ = some (.string ur) := HK.blk_cell hbc 0
              have c1 : wd.cell? ⟨C, 1, none⟩ = some (.int .u8 uo) := HK.blk_cell hbc 1
              have c2 : wd.cell? ⟨C, 2, none⟩ = some (.string un) := HK.blk_cell hbc 2
              have c3 : wd.cell? ⟨C, 3, none⟩ = some (.slice ea en ec) := HK.blk_cell hbc 3
              have c4 : wd.cell? ⟨C, 4, none⟩ = some (.slice ia i2 ic) := HK.blk_cell hbc 4
              have c5 : wd.cell? ⟨C, 5, none⟩ = some (.int .i64 ul) := HK.blk_cell hbc 5
              have c6 : wd.cell? ⟨C, 6, none⟩ = some (.slice ta tn tc) := HK.blk_cell hbc 6
              have c7 : wd.cell? ⟨C, 7, none⟩ = some (.slice ka kn kc) := HK.blk_cell hbc 7
              clear x0 x0' x0'' x1 x1' x1'' x2 x2' x2'' x3 x3' x3'' x4 x4' x4'' x5 x5' x5'' x6 x6' x6'' x7 x7' x7'' hD hdb hbc hq8 hBx hc
              rcases HW0.out with hw | ⟨hw, hcc⟩
              · obtain ⟨rfl, hnx⟩ := Prod.mk.inj hw
                have HNX := Lib.hid hnx
                clear hw hnx
                go_wp2_with (fail)
                go_roundw
                case rel =>
                  refine ⟨j + 1, by omega, by go_num, ?_⟩
                  rw [← HNX.out]
                  exact cut_next (nx := .node Rr ⟨Ro, Rn, ⟨ba, bn, bc⟩, ⟨da, dn, dc⟩, Rl, ⟨na, nn, nc⟩⟩ Rs) (s2 := ⟨qa, qn, qc⟩) (D := D) (cu := zeroT) (sq := SL.nil) HC.out hCr HBC.out HBL.out HBW.out HQ8.out rfl rfl
                case measure => simp [intOf]; omega
              · obtain ⟨rfl, _⟩ := Prod.mk.inj hw
                have HCC := Lib.hid hcc
                clear hw hcc
                go_wp2_with (fail)
                go_roundw
                case rel =>
                  refine ⟨j + 1, by omega, by go_num, ?_⟩
                  rw [HCC.out]
                  exact cut_stay (sq := ⟨ta, tn, tc⟩) hCr HBC.out HBL.out HBW.out HQ2.out
                case measure => simp [intOf]; omega
          · obtain rfl : j = vn := by omega
            have b1 : ¬ ((j : Int) < (j : Int)) := by omega
            have HCR := Lib.hid hcr
            clear hcr
            go_wp2_with (fail)
            go_meet
            case rel => 
              have := HCR.out
              rw [List.take_of_length_le (by rw [HPN.out]; exact Nat.le_refl _)] at this
              exact this
      case rest =>
        obtain ⟨sq, hbx, hq, hBl⟩ := hcut
        obtain ⟨wy, rfl⟩ : ∃ wy : World, wy = wc := ⟨_, rfl⟩
        have hBl2 : Below wz.heap.size wz wy := by rw [← HC.out]; exact hBl
        have hlaw := (cut_law (t := tr) (ps := ps) (f := 12) (by rw [HTR.out]; exact HFIT.out) (by omega) (by rw [HTR.out]; have := HSZ.out; omega) HPO.out).2
        obtain ⟨cu, hcu⟩ : ∃ cu, cu = cutT ps [] tr := ⟨_, rfl⟩
        have hmc : measT cu = true := by
          rw [hcu]; exact fit_meas (cut_fit ps [] tr 12 (by rw [HTR.out]; exact HFIT.out)) (by omega) (by refine Nat.le_trans (cut_size _ _ _) ?_; rw [HTR.out]; have := HSZ.out; omega)
        rw [← hcu] at hbx hq hlaw
        obtain ⟨G, hG⟩ : ∃ G, G = goalsL tr (ps.map natI) := ⟨_, rfl⟩
        obtain ⟨G2, hG2⟩ : ∃ G2, G2 = goalsL cu (([] : List (List Nat)).map natI) := ⟨_, rfl⟩
        have hview : G2.map viewD = G.map viewD := by rw [hG, hG2]; exact hlaw
        obtain ⟨NG, hNG⟩ : ∃ N, N = G.length := ⟨_, rfl⟩
        have hNG2 : G2.length = NG := by rw [hNG]; simpa using congrArg List.length hview
        have hNGs : NG ≤ 300 := by rw [hNG, hG]; exact len_goalsL _ _
        have hp40 : ∀ d ∈ G, d.pl.length ≤ 40 := by rw [hG]; exact goalsL_pl
        have hmt : measT tr = true := by rw [HTR.out]; exact HM.out
        have hpy := (hBl2.block _ (HK.blk_lt HPZ.out)).trans HPZ.out
        have hpsy := HSZ2.out.up hBl2
        have hrowy := HROW.out.below hBl2
        have hpsc := hq.ps (n0 := wy.heap.size) fun b hb => hb.1
        have hgw : ∀ (W : World) (s : SL) (qs : List (List Nat)), Below wy.heap.size wy W → IsW W s (qs.map natI) → (∀ p, p ∈ qs ↔ p ∈ ps) → qs.length ≤ 20 → Calls Try.prog 11 #[.agg #[.string rule, .int .u8 op, .string name, .slice aa an ac, .slice fa fn fc, .int .i64 label, .slice sa sn sc, .slice ma mn mc], s.v] W (RetGo W G) := fun W s qs hB hw he hl => by
          have := HG.out W ⟨sa, sn, sc⟩ s qs (hpsy.up hB) hw (fun p hp => by have := HPO.out p ((he p).1 hp); rw [HTR.out] at this; exact this) (by omega) (fun p hp => by have := HP12.out p ((he p).1 hp); omega)
          rw [← HTR.out, goals_ext hmt HPO.out he, ← hG] at this
          exact this
        have hgc : ∀ (W : World), Below wy.heap.size wy W → Calls Try.prog 11 #[.agg (cu.arr sq), SL.nil.v] W (RetGo W G2) := fun W hB => by
          rw [hG2]
          exact goals_at (W := W) (t := cu) (sv := sq) (s := SL.nil) (ps := []) hmc (hpsc.up hB) (IsW.nil W) (fun p hp => by cases hp) (by simp) (by simp)
        obtain ⟨ur, ⟨uo, un, ⟨ea, en, ec⟩, ⟨ia, i2, ic⟩, ul, ⟨ka, kn, kc⟩⟩, us⟩ := cu
        obtain ⟨ta, tn, tc⟩ := sq
        simp only [PT.arr, PT.rule, PT.o, PT.subs, SL.v, SL.nil] at hgw hgc hbx
        unfold RetGo at hgw hgc
        have HGW := Lib.hid hgw
        have HGC := Lib.hid hgc
        have HBX := Lib.hid hbx
        have HPY := Lib.hid hpy
        have HROWY := Lib.hid hrowy
        have HBY := Lib.hid (below_then HBZ.out hBl2)
        have HVW := Lib.hid hview
        have HNG := Lib.hid hNG
        have HNG2 := Lib.hid hNG2
        have HPL40 := Lib.hid hp40
        clear p0 p1 p2 p3 p4 p5 p6 p7
        have p0 : wy.cell? ⟨P, 0, none⟩ = some (.string rule) := HK.blk_cell hpy 0
        have p1 : wy.cell? ⟨P, 1, none⟩ = some (.int .u8 op) := HK.blk_cell hpy 1
        have p2 : wy.cell? ⟨P, 2, none⟩ = some (.string name) := HK.blk_cell hpy 2
        have p3 : wy.cell? ⟨P, 3, none⟩ = some (.slice aa an ac) := HK.blk_cell hpy 3
        have p4 : wy.cell? ⟨P, 4, none⟩ = some (.slice fa fn fc) := HK.blk_cell hpy 4
        have p5 : wy.cell? ⟨P, 5, none⟩ = some (.int .i64 label) := HK.blk_cell hpy 5
        have p6 : wy.cell? ⟨P, 6, none⟩ = some (.slice sa sn sc) := HK.blk_cell hpy 6
        have p7 : wy.cell? ⟨P, 7, none⟩ = some (.slice ma mn mc) := HK.blk_cell hpy 7
        clear hBl hBl2 hlaw hcu hmc hq hG hG2 hview hNG hNG2 hp40 hmt hpy hpsy hrowy hpsc hgw hgc hbx
        go_upto_region 36 with (fail)
        go_cut [23, 24] from 121 to 130 (fun v c wx => ∃ (ga : Option Addr) (gc : Nat) (gs : List StepV), v = .slice ga NG gc ∧ c = .int .i64 0 ∧ gs.map (·.d) = G ∧ IsG wx wy.heap.size (.slice ga NG gc) gs ∧ Below wy.heap.size wy wx)
        case first =>
          by_cases hv0 : vn = 0
          · have hxe : xs = [] := List.length_eq_zero_iff.1 (by have := HVN.out; omega)
            have hpe : ps = [] := by rw [HPS.out, hxe]; rfl
            obtain ⟨rfl, rfl⟩ := HN0.out hxe
            subst hv0
            have hce := fun (W : World) (hB : Below wy.heap.size wy W) => HGW.out W ⟨some ⟨wy.heap.size, 0, none⟩, 0, 0⟩ [] hB ⟨rfl, .inl rfl⟩ (fun p => by rw [hpe]) (by simp)
            simp only at hce
            have HCE := Lib.hid hce
            have p0' : ∀ o, (wy.alloc o).cell? ⟨P, 0, none⟩ = some (.string rule) := fun o => HK.blk_cell (HK.blk_alloc HPY.out o) 0
            have p1' : ∀ o, (wy.alloc o).cell? ⟨P, 1, none⟩ = some (.int .u8 op) := fun o => HK.blk_cell (HK.blk_alloc HPY.out o) 1
            have p2' : ∀ o, (wy.alloc o).cell? ⟨P, 2, none⟩ = some (.string name) := fun o => HK.blk_cell (HK.blk_alloc HPY.out o) 2
            have p3' : ∀ o, (wy.alloc o).cell? ⟨P, 3, none⟩ = some (.slice aa an ac) := fun o => HK.blk_cell (HK.blk_alloc HPY.out o) 3
            have p4' : ∀ o, (wy.alloc o).cell? ⟨P, 4, none⟩ = some (.slice fa fn fc) := fun o => HK.blk_cell (HK.blk_alloc HPY.out o) 4
            have p5' : ∀ o, (wy.alloc o).cell? ⟨P, 5, none⟩ = some (.int .i64 label) := fun o => HK.blk_cell (HK.blk_alloc HPY.out o) 5
            have p6' : ∀ o, (wy.alloc o).cell? ⟨P, 6, none⟩ = some (.slice sa sn sc) := fun o => HK.blk_cell (HK.blk_alloc HPY.out o) 6
            have p7' : ∀ o, (wy.alloc o).cell? ⟨P, 7, none⟩ = some (.slice ma mn mc) := fun o => HK.blk_cell (HK.blk_alloc HPY.out o) 7
            clear hce hxe hpe
            go_region_law ((first
                            | (refine step_app0 125 (by rfl) (by rfl) elem37 _ _ (by rfl) ⟨wy.heap.size, 0, none⟩ 0 0 (Nat.le_refl _) (by rfl) (by rfl) ?_)
                            | (refine step_app0 127 (by rfl) (by rfl) elem37 _ _ (by rfl) ⟨wy.heap.size, 0, none⟩ 0 0 (Nat.le_refl _) (by rfl) (by rfl) ?_)
                            | (go_simp
                               go_at_call 11
                               refine (HCE.out _ (by repeat (first | (with_reducible exact Below.refl _ _) | (with_reducible apply bl_al) | (with_reducible apply bl_dr)))).mono ?_
                               rintro e w9 ⟨v9, gs9, rfl, hgs9, hG9, hB9⟩
                               obtain ⟨g9, c9, rfl⟩ := goal_form hG9
                               have hl9 : gs9.length = NG := (by rw [HNG.out, ← hgs9, List.length_map])
                               rw [hl9] at hG9 ⊢
                               have hfin : gs9.map (·.d) = G ∧ IsG w9 wy.heap.size (.slice g9 NG c9) gs9 ∧ Below wy.heap.size wy w9 := ⟨hgs9, isg_down (by repeat (first | (with_reducible exact Below.refl _ _) | (with_reducible apply bl_al) | (with_reducible apply bl_dr))) hG9 hB9⟩
                               have HFIN := Lib.hid hfin
                               clear hfin hgs9 hG9 hB9 hl9)))
            all_goals (go_wp2_with (fail); go_meet)
            all_goals exact ⟨g9, c9, gs9, rfl, rfl, HFIN.out⟩
          · obtain ⟨g, rfl⟩ : ∃ g, va = some ⟨g, 0, none⟩ := by
              obtain ⟨x, hx⟩ : ∃ x, xs[0]? = some x := ⟨_, List.getElem?_eq_getElem (by have := HVN.out; omega)⟩
              obtain ⟨g, hg, _⟩ := HROWY.out.at hx
              exact ⟨g, hg⟩
            have hvp : 0 < vn := by omega
            have hnw := HROWY.out.news (ad := ⟨g, 0, none⟩) rfl
            have HNW := Lib.hid hnw
            have hgl : g < wy.heap.size := (HROWY.out.1.lt g rfl).2
            have hPl : P < wy.heap.size := HK.blk_lt HPY.out
            obtain ⟨N2, hN2⟩ : ∃ N2, N2 = vn + vn := ⟨_, rfl⟩
            have HN2 := Lib.hid hN2
            clear hN2
            have p0' : ∀ o, (wy.alloc o).cell? ⟨P, 0, none⟩ = some (.string rule) := fun o => HK.blk_cell (HK.blk_alloc HPY.out o) 0
            have p1' : ∀ o, (wy.alloc o).cell? ⟨P, 1, none⟩ = some (.int .u8 op) := fun o => HK.blk_cell (HK.blk_alloc HPY.out o) 1
            have p2' : ∀ o, (wy.alloc o).cell? ⟨P, 2, none⟩ = some (.string name) := fun o => HK.blk_cell (HK.blk_alloc HPY.out o) 2
            have p3' : ∀ o, (wy.alloc o).cell? ⟨P, 3, none⟩ = some (.slice aa an ac) := fun o => HK.blk_cell (HK.blk_alloc HPY.out o) 3
            have p4' : ∀ o, (wy.alloc o).cell? ⟨P, 4, none⟩ = some (.slice fa fn fc) := fun o => HK.blk_cell (HK.blk_alloc HPY.out o) 4
            have p5' : ∀ o, (wy.alloc o).cell? ⟨P, 5, none⟩ = some (.int .i64 label) := fun o => HK.blk_cell (HK.blk_alloc HPY.out o) 5
            have p6' : ∀ o, (wy.alloc o).cell? ⟨P, 6, none⟩ = some (.slice sa sn sc) := fun o => HK.blk_cell (HK.blk_alloc HPY.out o) 6
            have p7' : ∀ o, (wy.alloc o).cell? ⟨P, 7, none⟩ = some (.slice ma mn mc) := fun o => HK.blk_cell (HK.blk_alloc HPY.out o) 7
            clear hnw
            go_region_law
              ((first
                | (refine step_appm 125 (by rfl) (by rfl) elem37 _ _ (by rfl) (.slice (some ⟨wy.heap.size, 0, none⟩) 0 0) 0 [] (by rfl) (empty_row (HK.blk_new _ _)) ⟨g, 0, none⟩ vn vc (xs.map fun x => x.2.v) (by rfl) (by simp [← HVN.out]) (fun j u hu => cell_then (HNW.out j u hu) (by repeat (first | (with_reducible exact Below.refl _ _) | (with_reducible apply bl_al) | (with_reducible apply bl_dr)))) (fun u hu => by obtain ⟨x, _, rfl⟩ := List.mem_map.1 hu; rfl) vn (by omega) (by omega) (by simp only [maxLen]; omega) (by omega) ?_
                   intro g1 c1 w7 hown7 hgrow7 hat7 hlt7
                   have hT7 : w7.heap[P]? = _ := HK.blk_grown2 hgrow7 (HK.blk_alloc HPY.out _) (fun e => by simp only [Value.ownBlock, Option.some.injEq] at e; omega)
                   have hg1 : wy.heap.size ≤ g1 := by
                     rcases hat7 with e | e
                     · simp only [Value.ownBlock, Option.some.injEq] at e; omega
                     · rw [e]; first | (simp; done) | (simp; omega) | (show _ ≤ (wy.alloc _).heap.size; simp; omega)
                   have hz7 : wy.heap.size ≤ w7.heap.size := by have := hgrow7.size; first | (simp at this; omega) | (change (wy.alloc _).heap.size ≤ _ at this; simp at this; omega)
                   have hold : ∀ b, b < wy.heap.size → w7.heap[b]? = wy.heap[b]? := fun b hb => (hgrow7.block b (by first | (simp; omega) | (show _ < (wy.alloc _).heap.size; simp; omega)) (fun e => by simp only [Value.ownBlock, Option.some.injEq] at e; omega)).trans (Below.heap_alloc wy _ b hb)
                   have hB7 : Below wy.heap.size wy w7 := Below.grown (by repeat (first | (with_reducible exact Below.refl _ _) | (with_reducible apply bl_al) | (with_reducible apply bl_dr))) hgrow7 (by first | (simp; done) | (simp; omega) | (show _ ≤ (wy.alloc _).heap.size; simp; omega)) (fun k e => by simp only [Value.ownBlock, Option.some.injEq] at e; omega)
                   have hnw7 : ∀ (j : Nat) u, (xs.map fun x => x.2.v)[j]? = some u → w7.cell? ((⟨g, 0, none⟩ : Addr).add j) = some u := fun j u hu => cell_then (HNW.out j u hu) hB7
                   have hpl7 : ∀ x ∈ xs, PlaceB w7 x.2 x.1 := fun x hx => (HROWY.out.2 x hx).same fun k hk => hold k ((HROWY.out.2 x hx).lt hk)
                   rw [List.nil_append] at hown7
                   have q0 : w7.cell? ⟨P, 0, none⟩ = some (.string rule) := HK.blk_cell hT7 0
                   have q1 : w7.cell? ⟨P, 1, none⟩ = some (.int .u8 op) := HK.blk_cell hT7 1
                   have q2 : w7.cell? ⟨P, 2, none⟩ = some (.string name) := HK.blk_cell hT7 2
                   have q3 : w7.cell? ⟨P, 3, none⟩ = some (.slice aa an ac) := HK.blk_cell hT7 3
                   have q4 : w7.cell? ⟨P, 4, none⟩ = some (.slice fa fn fc) := HK.blk_cell hT7 4
                   have q5 : w7.cell? ⟨P, 5, none⟩ = some (.int .i64 label) := HK.blk_cell hT7 5
                   have q6 : w7.cell? ⟨P, 6, none⟩ = some (.slice sa sn sc) := HK.blk_cell hT7 6
                   have q7 : w7.cell? ⟨P, 7, none⟩ = some (.slice ma mn mc) := HK.blk_cell hT7 7
                   have HT7 := Lib.hid hT7
                   have HOW7 := Lib.hid hown7
                   have HB7 := Lib.hid hB7
                   have HNW7 := Lib.hid hnw7
                   have HPL7 := Lib.hid hpl7
                   clear hown7 hgrow7 hat7 hT7 hold hB7 hnw7 hpl7)
                | (refine step_appm 127 (by rfl) (by rfl) elem37 _ _ (by rfl) (.slice (some ⟨g1, 0, none⟩) vn c1) vn (xs.map fun x => x.2.v) (by rfl) HOW7.out ⟨g, 0, none⟩ vn vc (xs.map fun x => x.2.v) (by rfl) (by simp [← HVN.out]) HNW7.out (fun u hu => by obtain ⟨x, _, rfl⟩ := List.mem_map.1 hu; rfl) N2 (by have := HN2.out; omega) (by omega) (by simp only [maxLen]; omega) (by omega) ?_
                   intro g2 c2 w8 hown8 hgrow8 hat8 hlt8
                   have hT8 : w8.heap[P]? = _ := HK.blk_grown2 hgrow8 HT7.out (fun e => by simp only [Value.ownBlock, Option.some.injEq] at e; omega)
                   have hB8 : Below wy.heap.size wy w8 := Below.grown HB7.out hgrow8 hz7 (fun k e => by simp only [Value.ownBlock, Option.some.injEq] at e; omega)
                   have hrow8 := PRow.twice HPL7.out HOW7.out hgrow8 hown8 (by have := HVN.out; have := HN2.out; omega)
                   have hw8 : IsW w8 ⟨some ⟨g2, 0, none⟩, N2, c2⟩ ((ps ++ ps).map natI) := by have := hrow8.isW; rw [List.map_append, ← HPS.out] at this; exact this
                   have r0 : w8.cell? ⟨P, 0, none⟩ = some (.string rule) := HK.blk_cell hT8 0
                   have r1 : w8.cell? ⟨P, 1, none⟩ = some (.int .u8 op) := HK.blk_cell hT8 1
                   have r2 : w8.cell? ⟨P, 2, none⟩ = some (.string name) := HK.blk_cell hT8 2
                   have r3 : w8.cell? ⟨P, 3, none⟩ = some (.slice aa an ac) := HK.blk_cell hT8 3
                   have r4 : w8.cell? ⟨P, 4, none⟩ = some (.slice fa fn fc) := HK.blk_cell hT8 4
                   have r5 : w8.cell? ⟨P, 5, none⟩ = some (.int .i64 label) := HK.blk_cell hT8 5
                   have r6 : w8.cell? ⟨P, 6, none⟩ = some (.slice sa sn sc) := HK.blk_cell hT8 6
                   have r7 : w8.cell? ⟨P, 7, none⟩ = some (.slice ma mn mc) := HK.blk_cell hT8 7
                   have hcc := HGW.out w8 ⟨some ⟨g2, 0, none⟩, N2, c2⟩ (ps ++ ps) hB8 hw8 (fun p => by simp) (by simp only [List.length_append]; have := HPN.out; omega)
                   simp only at hcc
                   have HCC := Lib.hid hcc
                   have HB8 := Lib.hid hB8
                   clear hown8 hgrow8 hat8 hT8 hB8 hrow8 hw8 hcc)
                | (go_simp
                   go_at_call 11
                   with_reducible refine HCC.out.mono ?_
                   rintro e w9 ⟨v9, gs9, rfl, hgs9, hG9, hB9⟩
                   obtain ⟨g9, c9, rfl⟩ := goal_form hG9
                   have hl9 : gs9.length = NG := (by rw [HNG.out, ← hgs9, List.length_map])
                   rw [hl9] at hG9 ⊢
                   have hfin : gs9.map (·.d) = G ∧ IsG w9 wy.heap.size (.slice g9 NG c9) gs9 ∧ Below wy.heap.size wy w9 := ⟨hgs9, ⟨row_mono hG9.1 HB8.out.size, hG9.2⟩, HB8.out.trans (hB9.mono HB8.out.size)⟩
                   have HFIN := Lib.hid hfin
                   clear hfin hgs9 hG9 hB9 hl9)))
            all_goals (go_wp2_with (fail); go_meet)
            all_goals exact ⟨g9, c9, gs9, rfl, rfl, HFIN.out⟩
        case rest =>
          obtain ⟨ga, gca, gsa, rfl, rfl, hga, hGa, hBa⟩ := hcut
          obtain ⟨wa, rfl⟩ : ∃ wa : World, wa = wc := ⟨_, rfl⟩
          have hcx := (hBa.block _ (HK.blk_lt HBX.out)).trans HBX.out
          have hpa := (hBa.block _ (HK.blk_lt HPY.out)).trans HPY.out
          have hca := HGC.out wa hBa
          have HCA := Lib.hid hca
          have HPA := Lib.hid hpa
          have HGA := Lib.hid hga
          have HIA := Lib.hid hGa
          have HBA := Lib.hid hBa
          have c0 : wa.cell? ⟨C, 0, none⟩ = some (.string ur) := HK.blk_cell hcx 0
          have c1 : wa.cell? ⟨C, 1, none⟩ = some (.int .u8 uo) := HK.blk_cell hcx 1
          have c2 : wa.cell? ⟨C, 2, none⟩ = some (.string un) := HK.blk_cell hcx 2
          have c3 : wa.cell? ⟨C, 3, none⟩ = some (.slice ea en ec) := HK.blk_cell hcx 3
          have c4 : wa.cell? ⟨C, 4, none⟩ = some (.slice ia i2 ic) := HK.blk_cell hcx 4
          have c5 : wa.cell? ⟨C, 5, none⟩ = some (.int .i64 ul) := HK.blk_cell hcx 5
          have c6 : wa.cell? ⟨C, 6, none⟩ = some (.slice ta tn tc) := HK.blk_cell hcx 6
          have c7 : wa.cell? ⟨C, 7, none⟩ = some (.slice ka kn kc) := HK.blk_cell hcx 7
          clear hcx hpa hca hga hGa hBa p0 p1 p2 p3 p4 p5 p6 p7
          go_upto_region 38 with (go_at_call 11; (refine HCA.out.mono ?_; rintro e wb ⟨v2, gsb, rfl, hgb, hGb, hBb⟩; obtain ⟨gb, gcb, rfl⟩ := goal_form hGb; have hlb : gsb.length = NG := (by rw [← HNG2.out, ← hgb, List.length_map]); rw [hlb] at hGb ⊢))
          have HGB := Lib.hid hgb
          have HIB := Lib.hid hGb
          have HBB := Lib.hid hBb
          clear hlb hgb hGb hBb c0 c1 c2 c3 c4 c5 c6 c7
          go_upto_block 6 with (fail)
          go_cut [27] from 136 to 152 (fun v wx => ∃ (ta : Option Addr) (tc : Nat), v = .slice ta vn tc ∧ PRow wx wb.heap.size ⟨ta, vn, tc⟩ xs.reverse ∧ Below wb.heap.size wb wx)
          case first =>
            have hByb := below_then HBA.out HBB.out
            have HBYB := Lib.hid hByb
            clear hByb
            go_wp2_with (fail)
            go_loopw [27, 138] (fun v k wr => ∃ (i : Nat) (ta : Option Addr) (tc : Nat), i ≤ vn ∧ v = .slice ta i tc ∧ k = .int .i64 i ∧ PRow wr wb.heap.size ⟨ta, i, tc⟩ (xs.reverse.take i) ∧ Below wb.heap.size wb wr) (fun _ k _ => vn - (intOf k).toNat)
            case atStart => exact ⟨0, none, 0, by omega, rfl, rfl, PRow.nil _ _, Below.refl _ _⟩
            case round =>
              obtain ⟨i, ta, tc, hi, rfl, rfl, hrw, hBr⟩ := hrel
              by_cases h1 : i < vn
              · obtain ⟨m, hm⟩ : ∃ m, m = vn - 1 - i := ⟨_, rfl⟩
                obtain ⟨⟨p, ⟨la, ln, lc⟩⟩, hx⟩ : ∃ x, xs[m]? = some x := ⟨_, List.getElem?_eq_getElem (by have := HVN.out; omega)⟩
                have hxr : xs.reverse[i]? = some (p, (⟨la, ln, lc⟩ : SL)) := by
                  rw [List.getElem?_reverse (by have := HVN.out; omega), show xs.length - 1 - i = m by have := HVN.out; omega]; exact hx
                have hrowr := HROWY.out.below (below_then HBYB.out hBr)
                obtain ⟨g, hg, hc, hpb⟩ := hrowr.at hx
                simp only at hg
                subst hg
                simp only [SL.v] at hc hpb
                obtain ⟨ys, hys⟩ : ∃ ys, ys = xs.reverse.take i := ⟨_, rfl⟩
                have htk : xs.reverse.take (i + 1) = ys ++ [(p, (⟨la, ln, lc⟩ : SL))] := by rw [List.take_add_one, hxr, hys]; rfl
                have hyl : ys.length = i := by rw [hys, List.length_take, List.length_reverse]; have := HVN.out; omega
                rw [← hys] at hrw
                clear hys
                subst hyl
                obtain ⟨k1, hk1⟩ : ∃ k1, k1 = vn - 1 := ⟨_, rfl⟩
                have e1 : (vn : Int) - 1 = (k1 : Int) := by omega
                have e2 : (k1 : Int) - (ys.length : Int) = (m : Int) := by omega
                have e3 : (0 : Int) ≤ (m : Int) := by omega
                have e4 : (m : Int) < (vn : Int) := by omega
                have e5 : (ys.length : Int) < (vn : Int) := by omega
                have hz3 : wb.heap.size ≤ wr.heap.size := hBr.size
                have HRW := Lib.hid hrw
                have HTK := Lib.hid htk
                have HBR := Lib.hid hBr
                have HPB := Lib.hid hpb
                clear hx hxr hrowr hrw htk hBr hpb hm hk1
                go_upto_region 43 with (
                  at_builtin
                  refine HK.wpList_app1 rfl elem37 _ _ rfl (.slice ta ys.length tc) ys.length (ys.map fun x => x.2.v) rfl (row_mono (HRW.out.1.alloc _) (Nat.zero_le _)) wr.heap.size 1 #[.slice la ln lc] rfl (HK.blk_new _ _) rfl (by simp [Value.oneCell']) (by simp only [maxLen]; omega) (by omega) ?_
                  intro gg cap w7 hown7 hgrow hat hlt)
                obtain ⟨hrow7, hB7⟩ := elem_next (x := (p, (⟨la, ln, lc⟩ : SL))) HRW.out hz3 HPB.out hgrow hown7 hat
                have HROW7 := Lib.hid hrow7
                have HB7 := Lib.hid (HBR.out.trans hB7)
                clear hown7 hgrow hat hlt hrow7 hB7
                go_wp2_with (fail)
                go_roundw
                case rel => exact ⟨ys.length + 1, some ⟨gg, 0, none⟩, cap, by omega, rfl, by go_num, by rw [HTK.out]; exact HROW7.out, HB7.out⟩
                case measure => simp [intOf]; omega
              · obtain rfl : i = vn := by omega
                have b1 : ¬ ((i : Int) < (i : Int)) := by omega
                have HRW := Lib.hid hrw
                have HBR := Lib.hid hBr
                clear hrw hBr
                go_wp2_with (fail)
                go_meet
                case rel =>
                  have := HRW.out
                  rw [List.take_of_length_le (by rw [List.length_reverse, ← HVN.out]; exact Nat.le_refl _)] at this
                  exact ⟨ta, tc, rfl, this, HBR.out⟩
          case rest =>
            obtain ⟨ta, tc, rfl, hrw, hBt⟩ := hcut
            obtain ⟨wt, rfl⟩ : ∃ wt : World, wt = wc := ⟨_, rfl⟩
            have hBbt := below_then HBB.out hBt
            have hBat := below_then HBA.out hBbt
            have hpt := (hBbt.block _ (HK.blk_lt HPA.out)).trans HPA.out
            have hct := HGW.out wt ⟨ta, vn, tc⟩ ps.reverse hBat (by have := hrw.isW; rw [List.map_reverse, ← HPS.out] at this; exact this) (fun p => List.mem_reverse) (by rw [List.length_reverse, HPN.out]; omega)
            simp only at hct
            have HCT := Lib.hid hct
            have HIA2 := Lib.hid (HIA.out.below hBbt)
            have HIB2 := Lib.hid (HIB.out.below hBt)
            have HBT := Lib.hid (below_then HBY.out hBat)
            have p0 : wt.cell? ⟨P, 0, none⟩ = some (.string rule) := HK.blk_cell hpt 0
            have p1 : wt.cell? ⟨P, 1, none⟩ = some (.int .u8 op) := HK.blk_cell hpt 1
            have p2 : wt.cell? ⟨P, 2, none⟩ = some (.string name) := HK.blk_cell hpt 2
            have p3 : wt.cell? ⟨P, 3, none⟩ = some (.slice aa an ac) := HK.blk_cell hpt 3
            have p4 : wt.cell? ⟨P, 4, none⟩ = some (.slice fa fn fc) := HK.blk_cell hpt 4
            have p5 : wt.cell? ⟨P, 5, none⟩ = some (.int .i64 label) := HK.blk_cell hpt 5
            have p6 : wt.cell? ⟨P, 6, none⟩ = some (.slice sa sn sc) := HK.blk_cell hpt 6
            have p7 : wt.cell? ⟨P, 7, none⟩ = some (.slice ma mn mc) := HK.blk_cell hpt 7
            clear hrw hBt hBbt hBat hpt hct
            go_upto_region 45 with (go_at_call 11; (refine HCT.out.mono ?_; rintro e wd ⟨v3, gsc, rfl, hgc3, hGc, hBc⟩; obtain ⟨gc, gcc, rfl⟩ := goal_form hGc; have hlc : gsc.length = NG := (by rw [HNG.out, ← hgc3, List.length_map]); rw [hlc] at hGc ⊢))
            have HGC3 := Lib.hid hgc3
            have HIC := Lib.hid hGc
            have HIA3 := Lib.hid (HIA2.out.below hBc)
            have HIB3 := Lib.hid (HIB2.out.below hBc)
            have HBD := Lib.hid (below_then HBT.out hBc)
            clear hgc3 hGc hBc hlc p0 p1 p2 p3 p4 p5 p6 p7
            go_wp2_with (fail)
            go_loopw [185] (fun k wr => ∃ i : Nat, i ≤ NG ∧ k = .int .i64 i ∧ Below wd.heap.size wd wr) (fun k _ => NG - (intOf k).toNat)
            case atStart => exact ⟨0, by omega, rfl, Below.refl _ _⟩
            case round =>
              obtain ⟨wo, rfl⟩ : ∃ wo : World, wo = wr := ⟨_, rfl⟩
              obtain ⟨i, hi, rfl, hBr⟩ := hrel
              by_cases h1 : i < NG
              · obtain ⟨d, hd⟩ : ∃ d, G[i]? = some d := ⟨_, List.getElem?_eq_getElem (by rw [← HNG.out]; exact h1)⟩
                have hpl40 := HPL40.out d (List.mem_of_getElem? hd)
                obtain ⟨d2, hd2, hpe, hwe⟩ := view_at HVW.out hd
                obtain ⟨xa, hxa, hda⟩ := gs_at HGA.out hd
                obtain ⟨xb, hxb, hdb⟩ := gs_at HGB.out hd2
                obtain ⟨xc, hxc, hdc⟩ := gs_at HGC3.out hd
                have hia := HIA3.out.below hBr
                have hib := HIB3.out.below hBr
                have hic := HIC.out.below hBr
                obtain ⟨g1, _, hv1, a0, a1⟩ := goal_at hia hxa
                obtain ⟨g2, _, hv2, b0, b1⟩ := goal_at hib hxb
                obtain ⟨g3, _, hv3, c0, c1⟩ := goal_at hic hxc
                simp only [Value.slice.injEq] at hv1 hv2 hv3
                obtain ⟨rfl, _⟩ := hv1
                obtain ⟨rfl, _⟩ := hv2
                obtain ⟨rfl, _⟩ := hv3
                have pa := (hia.2 xa (List.mem_of_getElem? hxa)).isI
                have pb := (hib.2 xb (List.mem_of_getElem? hxb)).isI
                have pc := (hic.2 xc (List.mem_of_getElem? hxc)).isI
                rw [hda] at a1 pa
                rw [hdb, hwe] at b1
                rw [hdb, hpe] at pb
                rw [hdc] at c1 pc
                obtain ⟨_, ⟨xaa, xan, xac⟩, _⟩ := xa
                obtain ⟨_, ⟨xba, xbn, xbc⟩, _⟩ := xb
                obtain ⟨_, ⟨xca, xcn, xcc⟩, _⟩ := xc
                obtain ⟨pl, wtt, T0⟩ := d
                simp only [SL.v] at a0 a1 b0 b1 c0 c1 pa pb pc hpl40
                have hq1 := fun q => ints_quiet (q := q) pa pb (by simp; omega)
                have hq2 := fun q => ints_quiet (q := q) pa pc (by simp; omega)
                simp only [SL.v] at hq1 hq2
                have HQ1 := Lib.hid hq1
                have HQ2 := Lib.hid hq2
                have HBR := Lib.hid hBr
                have z0 : (0 : Int) ≤ (i : Int) := by omega
                have z1 : (i : Int) < (NG : Int) := by omega
                clear hBr hd hpl40 hd2 hpe hwe hxa hda hxb hdb hxc hdc hia hib hic pa pb pc hq1 hq2
                go_upto_region 50 with (fail)
                go_quiet ((go_at_call 26; first | (with_reducible exact HQ1.out _) | (with_reducible exact HQ2.out _)))
                go_wp2_with (fail)
                go_roundw
                case rel => exact ⟨i + 1, by omega, by go_num, below_drewN HBR.out _⟩
                case measure => simp [intOf]; omega
              · obtain rfl : i = NG := by omega
                have b1 : ¬ ((i : Int) < (i : Int)) := by omega
                have HBR := Lib.hid hBr
                clear hBr
                go_wp2_with (go_at_call 14; (refine (haw _).mono ?_; rintro e w15 ⟨rfl, hB15⟩))
                go_ret
                exact ⟨rfl, below_then HBD.out (below_then HBR.out hB15)⟩
end Go.Proofs.Ytfebcpmbkljaoaa
