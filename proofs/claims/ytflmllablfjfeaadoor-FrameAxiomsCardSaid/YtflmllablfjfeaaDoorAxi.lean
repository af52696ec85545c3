/- Frame: the walk of FrameAxioms (7). frax.py prints this text. -/
import Derived.Test.YtflmllablfjfeaaDoorAxk
namespace Go.Proofs.YtflmllablfjfeaaDoor
open Go.RowKit Go.HK Go.FR
set_option linter.unusedVariables false
set_option linter.unusedSimpArgs false
set_option linter.unusedSectionVars false
set_option maxRecDepth 100000 in
set_option maxHeartbeats 16000000 in
theorem axioms_walk (w : World) (s : Nat) (F : Nat → Nat) (cc : Nat) (a0 : Option Addr) (ln lc : Nat) (l : List Nat) (hrw : IsRows w) (hs : s < 256) (hF : ∀ i, F i < 256) (hcc : cc < 256) (hl : l.length = ln) (hl2 : ln ≤ 9223372036854775807) (hby : IsBy w a0 l) :
    Calls Tryd.prog 7 #[.int .u8 (s : Int), .agg (sevenV F), .int .u8 (cc : Int), .slice a0 ln lc] w (RetW w true) := by
  obtain ⟨n, hn⟩ : ∃ n, n = 1 + s % 4 := ⟨_, rfl⟩
  have h1 : 1 ≤ n := by omega
  have h4 : n ≤ 4 := by omega
  obtain ⟨rl, hrl⟩ : ∃ rl, rl = madeR n F n := ⟨_, rfl⟩
  obtain ⟨u4, hu4⟩ : ∃ u, u = F 4 % 2 ^ n := ⟨_, rfl⟩
  obtain ⟨u5, hu5⟩ : ∃ u, u = F 5 % 2 ^ n := ⟨_, rfl⟩
  obtain ⟨u6, hu6⟩ : ∃ u, u = F 6 % 2 ^ n := ⟨_, rfl⟩
  obtain ⟨ff, hff⟩ : ∃ ff, ff = builtF true l := ⟨_, rfl⟩
  obtain ⟨c, hc⟩ : ∃ c, c = cc % 8 := ⟨_, rfl⟩
  have hp := Nat.two_pow_pos n
  have hro : FrOk rl := by rw [hrl]; exact madeQ_ok n h1 h4 F
  have hlr : rl.length = n := by rw [hrl]; exact madeR_len n F n
  have hpf := built_pln true l
  rw [← hff] at hpf
  have HU : Hid (u4 < 2 ^ n ∧ u5 < 2 ^ n ∧ u6 < 2 ^ n) := Lib.hid ⟨by rw [hu4]; exact Nat.mod_lt _ hp, by rw [hu5]; exact Nat.mod_lt _ hp, by rw [hu6]; exact Nat.mod_lt _ hp⟩
  have HC8 : Hid ((cc : Int) % 8 = (c : Int) ∧ c ≤ 7) := Lib.hid (by omega)
  have HCB : Hid (∀ i, i < 3 → cc.testBit i = c.testBit i) := Lib.hid fun i hi => by
    rw [hc, show (8 : Nat) = 2 ^ 3 from rfl, Nat.testBit_mod_two_pow]; simp [hi]
  have HCC := Lib.hid hcc
  have HPF := Lib.hid hpf
  have HRO := Lib.hid hro
  have HLR := Lib.hid hlr
  have HN14 := Lib.hid (And.intro h1 h4)
  have HX : Hid (∀ W, Below w.heap.size w W → Calls Tryd.prog 14 #[.int .u8 4, .slice a0 ln lc] W (RetFm W ff)) := Lib.hid fun W h => by
    rw [hff]; exact built_call W 4 a0 ln lc l (by omega) hl hl2 (hby.below h)
  have HFD : Hid (∀ q, Calls Tryd.prog 19 #[.int .u8 (s : Int), .agg #[.int .u8 (F 0 : Nat), .int .u8 (F 1 : Nat), .int .u8 (F 2 : Nat), .int .u8 (F 3 : Nat), .int .u8 (F 4 : Nat), .int .u8 (F 5 : Nat), .int .u8 (F 6 : Nat)]] q (RetMo q 4 n rl [u4, u5, u6])) := Lib.hid fun q => by
    have := made_call q s F hs hF
    rw [← hn, ← hrl, ← hu4, ← hu5, ← hu6] at this
    exact this
  have hw1 : ∀ o, Below w.heap.size w (w.alloc o) := fun o => below_alloc w o
  have HAW : Hid (∀ o, Calls Tryd.prog 12 #[] (w.alloc o) (RetW (w.alloc o) true)) := Lib.hid fun o => awake_call (w.alloc o) (hrw.below (hw1 o))
  unfold RetW at HAW
  unfold RetFm at HX
  unfold RetMo at HFD
  have HRW0 := Lib.hid hrw
  clear hn hrl hu4 hu5 hu6 hff hc hp hro hlr hpf hs hF hcc hl hl2 hby hw1 hrw h1 h4
  show Calls Tryd.prog 7 #[.int .u8 (s : Int), .agg #[.int .u8 (F 0 : Nat), .int .u8 (F 1 : Nat), .int .u8 (F 2 : Nat), .int .u8 (F 3 : Nat), .int .u8 (F 4 : Nat), .int .u8 (F 5 : Nat), .int .u8 (F 6 : Nat)], .int .u8 (cc : Int), .slice a0 ln lc] w _
  go_enter Tryd.func7, Tryd.ntmps7
  go_upto_region 3 with (go_at_call 12; ((with_reducible refine (HAW.out _).mono ?_); rintro e q0 ⟨rfl, hB⟩))
  have hsv := (hB.block w.heap.size (by simp)).trans (HK.blk_new w _)
  have HSV := Lib.hid hsv
  have HBL := Lib.hid (below_tr (below_alloc w _) hB)
  clear hsv hB
  go_cut [9] from 24 to 26 (fun v9 wx => ∃ B g c fg fc, v9 = .pointer (some ⟨B, 0, none⟩) ∧ wx.heap[B]? = some (.cells #[.int .u8 4, .int .i64 (n : Int), .slice (some ⟨g, 0, none⟩) n c, .int .i64 0, .slice (some ⟨fg, 0, none⟩) 3 fc, .slice none 0 0, .slice none 0 0] 30 (0, 0)) ∧ wx.ownsRow q0.heap.size 3 1 (.slice (some ⟨g, 0, none⟩) n c) n (ints rl) ∧ wx.ownsRow q0.heap.size 46 3 (.slice (some ⟨fg, 0, none⟩) 3 fc) 3 (fcs 0 [u4, u5, u6]) ∧ fg < B ∧ g < B ∧ q0.heap.size ≤ fg ∧ Below q0.heap.size q0 wx)
  case first =>
    have cc := HK.blk_cell HSV.out
    have c0 := cc 0
    have c1 := cc 1
    have c2 := cc 2
    have c3 := cc 3
    have c4 := cc 4
    have c5 := cc 5
    have c6 := cc 6
    clear cc
    go_wp2_with (go_at_call 19; ((with_reducible refine (HFD.out _).mono ?_); rintro e w' ⟨g, c, fg, fc, rfl, hB, ho1, ho2⟩))
    go_meet
    have k1 := own_lt9 ho1 g rfl
    have k2 := own_lt9 ho2 fg rfl
    have k3 : q0.heap.size ≤ fg := by obtain ⟨g', c', e, h, _⟩ := own_form9 ho2 (by simp); cases e; exact h
    exact ⟨_, g, c, fg, fc, rfl, HK.blk_new _ _, (own_below9 ho1 (below_alloc _ _)), (own_below9 ho2 (below_alloc _ _)), k2, k1, k3, below_tr hB (below_alloc _ _)⟩
  case rest =>
    obtain ⟨B9, g9, c9, fg, fc, rfl, hb0, ho1, ho2, hl1, hl2, hl3, hB⟩ := hcut
    have hwf : w.heap.size ≤ fg := Nat.le_trans HBL.out.size hl3
    replace HBL := Lib.hid (below_tr HBL.out hB)
    obtain ⟨q1, hq1⟩ : ∃ q : World, q = wc := ⟨_, rfl⟩
    subst hq1
    have HB9 := Lib.hid hb0
    have HY1 := Lib.hid ho1
    have HFC := Lib.hid (fcB_own ho2)
    have HNE : Hid (fg < B9 ∧ w.heap.size ≤ fg ∧ fg < q1.heap.size ∧ B9 < q1.heap.size) := Lib.hid ⟨hl1, hwf, own_lt9 ho2 fg rfl, HK.blk_lt hb0⟩
    clear hb0 ho1 ho2 hl1 hl2 hl3 hwf hB
    go_upto_region 4 with (fail)
    go_cut [10, 11] from 27 to 34 (fun v10 v11 wx => ∃ out g k, v10 = .slice (some ⟨g, 0, none⟩) n k ∧ v11 = .int .i64 0 ∧ CloP c rl out ∧ wx.ownsRow 0 3 1 (.slice (some ⟨g, 0, none⟩) n k) n (ints out) ∧ q1.heap.size ≤ g ∧ Below q1.heap.size q1 wx)
    case first =>
      have c2 := HK.blk_cell HB9.out 2
      have e1 := HC8.out.1
      have e2 : (cc : Int).tmod 8 = (c : Int) := by rw [Int.tmod_eq_emod_of_nonneg (by omega)]; exact e1
      have hc := close_yes q1 g9 0 n c9 rl (isR_own HY1.out) HLR.out HRO.out HN14.out.1 c HC8.out.2
      have HC := Lib.hid hc
      clear hc
      unfold RetClo at HC
      go_wp2_with (go_at_call 22; ((with_reducible refine HC.out.mono ?_); rintro e w' ⟨out', v, rfl, hclo, hown, hB⟩))
      go_meet
      have hl : out'.length = n := hclo.i.len.trans HLR.out
      rw [hl] at hown
      obtain ⟨g, k, rfl, hge, _⟩ := own_form9 hown (by have := HN14.out; omega)
      exact ⟨out', g, k, rfl, rfl, hclo, own_mono0 hown, hge, hB⟩
    case rest =>
      obtain ⟨out, g3, k3, rfl, rfl, hclo, hown, hge, hB⟩ := hcut
      have HCL := Lib.hid hclo
      have HLC : Hid (out.length = n) := Lib.hid (hclo.i.len.trans HLR.out)
      have hb2 := blk_up9 hB HB9.out
      have hfc2 := HFC.out.below hB
      have hbl2 := below_tr HBL.out hB
      have hg3 : B9 < g3 ∧ fg < g3 := by have := HNE.out; omega
      obtain ⟨q2, hq2⟩ : ∃ q : World, q = wc := ⟨_, rfl⟩
      subst hq2
      clear HB9 HY1 HFC HBL hclo hge hB
      go_upto_region 5 with (fail)
      have c2 := HK.blk_cell hb2 2
      have cf := fun i => HK.blk_frozen hb2 i
      go_upto_region 6 with (fail)
      obtain ⟨q3, hq3⟩ : ∃ q : World, q = q2.setCell ⟨B9, 2, none⟩ (.slice (some ⟨g3, 0, none⟩) n k3) := ⟨_, rfl⟩
      rw [← hq3]
      have HB9 : Hid (q3.heap[B9]? = some (.cells #[.int .u8 4, .int .i64 (n : Int), .slice (some ⟨g3, 0, none⟩) n k3, .int .i64 0, .slice (some ⟨fg, 0, none⟩) 3 fc, .slice none 0 0, .slice none 0 0] 30 (0, 0))) := Lib.hid (by rw [hq3]; exact HK.blk_set hb2 2 _)
      have HFC : Hid (FcB fg (fun j => [u4, u5, u6].getD j 0) q3) := Lib.hid (by rw [hq3]; obtain ⟨arr, a, b⟩ := hfc2; exact ⟨arr, blk_set_other a (by have := HNE.out; show fg ≠ B9; omega) _, b⟩)
      have HY3 : Hid (q3.ownsRow 0 3 1 (.slice (some ⟨g3, 0, none⟩) n k3) n (ints out)) := Lib.hid (by rw [hq3]; exact HK.owns_setCell hown (by simp [Value.ownBlock]; omega) _)
      have HBL : Hid (Below w.heap.size w q3) := Lib.hid (by rw [hq3]; exact hbl2.setCell (by show w.heap.size ≤ B9; have := HNE.out; omega) _)
      have HG3 := Lib.hid hg3
      clear hb2 hfc2 hown hbl2 hq3 c2 cf hg3
      obtain ⟨ev, hev⟩ : ∃ ev, ev = 2 ^ n - 1 := ⟨_, rfl⟩
      have HEV := Lib.hid hev
      clear hev
      go_upto_region 6 with (fail)
      go_cut [12] from 37 to 40 (fun v12 wx => v12 = .int .i64 (ev : Int) ∧ q3 = wx)
      case first =>
        have h14 := HN14.out
        have c1 := HK.blk_cell HB9.out 1
        obtain ⟨z, hz⟩ : ∃ z, z = 1 <<< n := ⟨_, rfl⟩
        have f1 := shl_wrap (k := n) (by omega)
        rw [← hz] at f1
        have f2 := (IntWalk.i64_left _).symm.trans f1
        have hz2 : 2 ^ n = z := by rw [hz, Nat.one_shiftLeft]
        have hz3 := Nat.two_pow_pos n
        have e2 : (z : Int) - 1 = (ev : Int) := by have h := HEV.out; omega
        have hzle := pow_le4 h14.2
        have e3 : IntKind.i64.wrap ((z : Int) - 1) = (ev : Int) := by rw [IntWalk.i64_in _ (by omega)]; exact e2
        have e4 : wrap64 ((z : Int) - 1) = (ev : Int) := (IntWalk.i64_left _).symm.trans e3
        have qn : (0 : Int) ≤ (n : Int) := by omega
        have hmin : min n 64 = n := by omega
        clear hz hz2 hz3 e2 hzle h14
        go_wp2_with (fail)
        go_meet
        exact ⟨rfl, rfl⟩
      case rest =>
        obtain ⟨rfl, rfl⟩ := hcut
        have HFT : Hid (Calls Tryd.prog 21 #[.slice (some ⟨g3, 0, none⟩) n k3, .int .u8 (c : Int)] q3 (RetB q3 true)) := Lib.hid (by
          have := fits_call q3 g3 0 n k3 out (isR_own HY3.out) HLC.out HCL.out.i.ok HN14.out.1 c (by have := HC8.out.2; omega)
          rwa [closer_fits HCL.out HC8.out.2] at this)
        unfold RetB at HFT
        go_upto_region 8 with (fail)
        go_cut [49] from 41 to 48 (fun v wx => v = .bool false ∧ Below q3.heap.size q3 wx)
        case first =>
          have e1 := HC8.out.1
          have e2 : (cc : Int).tmod 8 = (c : Int) := by rw [Int.tmod_eq_emod_of_nonneg (by omega)]; exact e1
          go_wp2_with (go_at_call 21; ((with_reducible refine HFT.out.mono ?_); rintro e w' ⟨rfl, hB⟩))
          go_meet
          exact ⟨rfl, hB⟩
        case rest =>
          obtain ⟨rfl, hB⟩ := hcut
          have hb9 := blk_up9 hB HB9.out
          have hfc := HFC.out.below hB
          have hy3 := own_below9 HY3.out hB
          have hbl := below_tr HBL.out hB
          have hlt : fg < B9 ∧ fg < g3 ∧ B9 < g3 ∧ w.heap.size ≤ fg := by have := HNE.out; have := HG3.out; omega
          clear HB9 HFC HY3 HBL HFT HNE HG3
          have HB9 := Lib.hid hb9
          have HFC := Lib.hid hfc
          have HY3 := Lib.hid hy3
          have HBL := Lib.hid hbl
          have HNE := Lib.hid hlt
          clear hb9 hfc hy3 hbl hlt hB
          obtain ⟨q4, hq4⟩ : ∃ q : World, q = wc := ⟨_, rfl⟩
          subst hq4
          have HOW : Hid (∀ g, Value.ownBlock (.slice (some ⟨g3, 0, none⟩) n k3) = some g → ¬ g = fg) := Lib.hid (by
            intro g e
            have := HNE.out
            simp [Value.ownBlock] at e
            omega)
          go_wp2_with (fail)
          go_loopw [14] (fun iv wr => ∃ (i : Nat) (U : Nat → Nat), i ≤ 3 ∧ iv = .int .i64 i ∧ HK.Frm (fun b => b = fg) q4 wr ∧ FcB fg U wr ∧ U 0 < 2 ^ n ∧ U 1 = u5 ∧ U 2 = u6) (fun iv _ => 3 - (intOf iv).toNat)
          case atStart => exact ⟨0, _, by omega, rfl, HK.Frm.refl _ _, HFC.out, HU.out.1, rfl, rfl⟩
          case round =>
            obtain ⟨i, U, hi, rfl, hfr, hfc, hu0, hu1, hu2⟩ := hrel
            by_cases hi3 : (i : Int) < 3
            · have b0 : (0 : Int) ≤ (i : Int) := by omega
              have hbx := hfr.heap HB9.out (by have := HNE.out; omega)
              have hbw : Below w.heap.size w wr := HBL.out.trans (hfr.below HBL.out.size (fun k hk => by have := HNE.out; omega))
              have HM9 : Hid (MB wr B9 (mdl 4 n out [U 0, u5, u6])) := Lib.hid (mb_of4 hbx (hfr.owns HY3.out HOW.out) HLC.out hfc rfl hu1 hu2)
              have HRW := Lib.hid (HRW0.out.below hbw)
              have HK4 : Hid (∀ W, Below wr.heap.size wr W → W.cell? ⟨B9, 0, none⟩ = some (.int .u8 4)) := Lib.hid fun W h => HK.blk_cell (blk_up9 h hbx) 0
              have HB1 : Hid (∀ W, Below wr.heap.size wr W → _) := Lib.hid fun W h => HX.out W (below_tr hbw h)
              have HMO : Hid ((mdl 4 n out [U 0, u5, u6]).ok = true) := Lib.hid (mdl4_ok HCL.out.i.ok HLC.out HN14.out.1 hu0 HU.out.2.1 HU.out.2.2)
              obtain ⟨va, hva⟩ : ∃ va, va = semF false out (look3 (U 0) u5 u6) (axF i ff) := ⟨_, rfl⟩
              have HA1 : Hid (AtIs (mdl 4 n out [U 0, u5, u6]) (axF i ff) va) := Lib.hid (by rw [hva]; exact ax_at HPF.out.1 HPF.out.2.1 HPF.out.2.2)
              have HVA := Lib.hid hva
              have HFR := Lib.hid hfr
              have HFC2 := Lib.hid hfc
              have HU0 := Lib.hid (And.intro hu0 (And.intro hu1 hu2))
              have HBW := Lib.hid hbw
              have HI3 : Hid (i < 3) := Lib.hid (by omega)
              clear hfr hfc hu0 hu1 hu2 hbx hbw hva
              go_upto_region 13 with (fail)
              go_cut [15, 16] from 54 to 65 (fun u v wx => u = .int .i64 (va : Int) ∧ v = .int .i64 0 ∧ Below wr.heap.size wr wx)
              case first =>
                clear b0 hi3 hi
                refine Go.RE.wp_region_eachg [55, 56, 57, 58, 59, 60, 61, 62, 63, 54, 64, 65, 15, 16] (fun L x W => (Below wr.heap.size wr W) ∧ (L 0 = true → IsMv W (x 55) (mdl 4 n out [U 0, u5, u6])) ∧ (L 1 = true → x 56 = .func (.func 28) #[] #[]) ∧ (L 2 = true → x 57 = .int .i64 (i : Int)) ∧ (L 3 = true → x 58 = .pointer (some ⟨B9, 0, none⟩)) ∧ (L 4 = true → x 59 = .int .u8 4) ∧ (L 5 = true → x 60 = .slice a0 ln lc) ∧ (L 6 = true → IsFv W (x 61) ff) ∧ (L 7 = true → IsFv W (x 62) (axF i ff)) ∧ (L 8 = true → x 63 = .tuple #[.int .i64 (va : Int), .int .i64 0]) ∧ (L 9 = true → x 54 = .tuple #[.int .i64 (va : Int), .int .i64 0]) ∧ (L 10 = true → x 64 = .int .i64 (va : Int)) ∧ (L 11 = true → x 65 = .int .i64 0) ∧ (L 12 = true → x 15 = .int .i64 (va : Int)) ∧ (L 13 = true → x 16 = .int .i64 0)) (by kernel_rfl) (by kernel_rfl) (by kernel_rfl) ?_ ((Go.RE.Each.cons ?_ (Go.RE.Each.cons ?_ (Go.RE.Each.cons ?_ (Go.RE.Each.cons ?_ (Go.RE.Each.cons ?_ (Go.RE.Each.cons ?_ (Go.RE.Each.cons ?_ (Go.RE.Each.cons ?_ (Go.RE.Each.cons ?_ (Go.RE.Each.cons ?_ (Go.RE.Each.cons ?_ (Go.RE.Each.cons ?_ (Go.RE.Each.cons ?_ (Go.RE.Each.cons ?_ Go.RE.Each.nil))))))))))))))) ?_
                · exact fun x => ⟨bl_dr (Below.refl _ _), fun h => (by cases h), fun h => (by cases h), fun h => (by cases h), fun h => (by cases h), fun h => (by cases h), fun h => (by cases h), fun h => (by cases h), fun h => (by cases h), fun h => (by cases h), fun h => (by cases h), fun h => (by cases h), fun h => (by cases h), fun h => (by cases h), fun h => (by cases h)⟩
                · intro L x a wR K hL hd hf hx hΦ hK
                  obtain ⟨hI, f0, f1, f2, f3, f4, f5, f6, f7, f8, f9, f10, f11, f12, f13⟩ := hΦ
                  refine ⟨fun _ => ?_, fun h => absurd h (by rw [Go.RE.wanted_none rfl]; decide)⟩
                  have e9 : a.tmps[9]? = some (.pointer (some ⟨B9, 0, none⟩)) := hf 9 (of_decide_eq_true (by kernel_rfl))
                  clear hf hx hd
                  obtain ⟨mk, mz, lp, r0, r1, r2, t0, t1, t2, u0, u1, u2, b0, b1, b2, hb, h2, h3, h5, h4⟩ := (HM9.out.below hI)
                  have cc := HK.blk_cell hb
                  have c0 := cc 0
                  have c1 := cc 1
                  have c2 := cc 2
                  have c3 := cc 3
                  have c4 := cc 4
                  have c5 := cc 5
                  have c6 := cc 6
                  clear cc
                  go_simp
                  refine hK _ _ ?_
                  exact ⟨hI, fun _ => ⟨mk, mz, lp, r0, r1, r2, t0, t1, t2, u0, u1, u2, b0, b1, b2, rfl, h2, h3, h5, h4⟩, fun h => f1 h, fun h => f2 h, fun h => f3 h, fun h => f4 h, fun h => f5 h, fun h => f6 h, fun h => f7 h, fun h => f8 h, fun h => f9 h, fun h => f10 h, fun h => f11 h, fun h => f12 h, fun h => f13 h⟩
                · intro L x a wR K hL hd hf hx hΦ hK
                  obtain ⟨hI, f0, f1, f2, f3, f4, f5, f6, f7, f8, f9, f10, f11, f12, f13⟩ := hΦ
                  refine ⟨fun _ => ?_, fun h => absurd h (by rw [Go.RE.wanted_none rfl]; decide)⟩
                  have e13 : a.tmps[13]? = some (.func (.func 28) #[] #[]) := hf 13 (of_decide_eq_true (by kernel_rfl))
                  clear hf hx hd
                  go_simp
                  refine hK _ _ ?_
                  exact ⟨hI, fun h => f0 h, fun _ => rfl, fun h => f2 h, fun h => f3 h, fun h => f4 h, fun h => f5 h, fun h => f6 h, fun h => f7 h, fun h => f8 h, fun h => f9 h, fun h => f10 h, fun h => f11 h, fun h => f12 h, fun h => f13 h⟩
                · intro L x a wR K hL hd hf hx hΦ hK
                  obtain ⟨hI, f0, f1, f2, f3, f4, f5, f6, f7, f8, f9, f10, f11, f12, f13⟩ := hΦ
                  refine ⟨fun _ => ?_, fun h => absurd h (by rw [Go.RE.wanted_none rfl]; decide)⟩
                  have e14 : a.tmps[14]? = some (.int .i64 (i : Int)) := hf 14 (of_decide_eq_true (by kernel_rfl))
                  clear hf hx hd
                  go_simp
                  refine hK _ _ ?_
                  exact ⟨hI, fun h => f0 h, fun h => f1 h, fun _ => rfl, fun h => f3 h, fun h => f4 h, fun h => f5 h, fun h => f6 h, fun h => f7 h, fun h => f8 h, fun h => f9 h, fun h => f10 h, fun h => f11 h, fun h => f12 h, fun h => f13 h⟩
                · intro L x a wR K hL hd hf hx hΦ hK
                  obtain ⟨hI, f0, f1, f2, f3, f4, f5, f6, f7, f8, f9, f10, f11, f12, f13⟩ := hΦ
                  refine ⟨fun _ => ?_, fun h => absurd h (by rw [Go.RE.wanted_none rfl]; decide)⟩
                  have e9 : a.tmps[9]? = some (.pointer (some ⟨B9, 0, none⟩)) := hf 9 (of_decide_eq_true (by kernel_rfl))
                  clear hf hx hd
                  go_simp
                  refine hK _ _ ?_
                  exact ⟨hI, fun h => f0 h, fun h => f1 h, fun h => f2 h, fun _ => rfl, fun h => f4 h, fun h => f5 h, fun h => f6 h, fun h => f7 h, fun h => f8 h, fun h => f9 h, fun h => f10 h, fun h => f11 h, fun h => f12 h, fun h => f13 h⟩
                · intro L x a wR K hL hd hf hx hΦ hK
                  obtain ⟨hI, f0, f1, f2, f3, f4, f5, f6, f7, f8, f9, f10, f11, f12, f13⟩ := hΦ
                  refine ⟨fun _ => ?_, fun h => absurd h (by rw [Go.RE.wanted_none rfl]; decide)⟩
                  have d3 := f3 (hd 3 (by kernel_rfl))
                  have e58 : a.tmps[58]? = some (x 58) := hx 3 _ 58 rfl rfl (hd 3 (by kernel_rfl))
                  rw [d3] at e58
                  have c := HK4.out _ hI
                  clear hf hx hd
                  go_simp
                  refine hK _ _ ?_
                  exact ⟨hI, fun h => f0 h, fun h => f1 h, fun h => f2 h, fun h => f3 h, fun _ => rfl, fun h => f5 h, fun h => f6 h, fun h => f7 h, fun h => f8 h, fun h => f9 h, fun h => f10 h, fun h => f11 h, fun h => f12 h, fun h => f13 h⟩
                · intro L x a wR K hL hd hf hx hΦ hK
                  obtain ⟨hI, f0, f1, f2, f3, f4, f5, f6, f7, f8, f9, f10, f11, f12, f13⟩ := hΦ
                  refine ⟨fun _ => ?_, fun h => absurd h (by rw [Go.RE.wanted_none rfl]; decide)⟩
                  have e3 : a.tmps[3]? = some (.slice a0 ln lc) := hf 3 (of_decide_eq_true (by kernel_rfl))
                  clear hf hx hd
                  go_simp
                  refine hK _ _ ?_
                  exact ⟨hI, fun h => f0 h, fun h => f1 h, fun h => f2 h, fun h => f3 h, fun h => f4 h, fun _ => rfl, fun h => f6 h, fun h => f7 h, fun h => f8 h, fun h => f9 h, fun h => f10 h, fun h => f11 h, fun h => f12 h, fun h => f13 h⟩
                · intro L x a wR K hL hd hf hx hΦ hK
                  obtain ⟨hI, f0, f1, f2, f3, f4, f5, f6, f7, f8, f9, f10, f11, f12, f13⟩ := hΦ
                  refine ⟨fun _ => ?_, fun h => absurd h (by rw [Go.RE.wanted_none rfl]; decide)⟩
                  have d4 := f4 (hd 4 (by kernel_rfl))
                  have e59 : a.tmps[59]? = some (x 59) := hx 4 _ 59 rfl rfl (hd 4 (by kernel_rfl))
                  rw [d4] at e59
                  have d5 := f5 (hd 5 (by kernel_rfl))
                  have e60 : a.tmps[60]? = some (x 60) := hx 5 _ 60 rfl rfl (hd 5 (by kernel_rfl))
                  rw [d5] at e60
                  clear hf hx hd
                  go_simp
                  go_at_call 14
                  with_reducible refine (HB1.out _ hI).mono ?_
                  rintro e w' ⟨⟨a0', a1', a2'⟩, ⟨s0', s1', s2'⟩, rfl, hB8, hfm⟩
                  refine hK _ _ ?_
                  exact ⟨below_tr hI hB8, fun h => (f0 h).below hB8, fun h => f1 h, fun h => f2 h, fun h => f3 h, fun h => f4 h, fun h => f5 h, fun _ => of_fv hfm, fun h => (f7 h).below hB8, fun h => f8 h, fun h => f9 h, fun h => f10 h, fun h => f11 h, fun h => f12 h, fun h => f13 h⟩
                · intro L x a wR K hL hd hf hx hΦ hK
                  obtain ⟨hI, f0, f1, f2, f3, f4, f5, f6, f7, f8, f9, f10, f11, f12, f13⟩ := hΦ
                  refine ⟨fun _ => ?_, fun h => absurd h (by rw [Go.RE.wanted_none rfl]; decide)⟩
                  have d1 := f1 (hd 1 (by kernel_rfl))
                  have e56 : a.tmps[56]? = some (x 56) := hx 1 _ 56 rfl rfl (hd 1 (by kernel_rfl))
                  rw [d1] at e56
                  have d2 := f2 (hd 2 (by kernel_rfl))
                  have e57 : a.tmps[57]? = some (x 57) := hx 2 _ 57 rfl rfl (hd 2 (by kernel_rfl))
                  rw [d2] at e57
                  have d6 := f6 (hd 6 (by kernel_rfl))
                  have e61 : a.tmps[61]? = some (x 61) := hx 6 _ 61 rfl rfl (hd 6 (by kernel_rfl))
                  clear hf hx hd
                  have hc := axiom_call wR i HI3.out _ _ d6
                  obtain ⟨o', nm', a0', a1', a2', s0', s1', s2', hv', _, _, _⟩ := d6
                  rw [hv'] at e61
                  rw [hv'] at hc
                  have HC := Lib.hid hc
                  clear hc
                  go_simp
                  go_at_call 28
                  with_reducible refine HC.out.mono ?_
                  rintro e w' ⟨u, rfl, hfv, hB8⟩
                  simp only
                  refine hK _ _ ?_
                  exact ⟨below_tr hI hB8, fun h => (f0 h).below hB8, fun h => f1 h, fun h => f2 h, fun h => f3 h, fun h => f4 h, fun h => f5 h, fun h => (f6 h).below hB8, fun _ => hfv, fun h => f8 h, fun h => f9 h, fun h => f10 h, fun h => f11 h, fun h => f12 h, fun h => f13 h⟩
                · intro L x a wR K hL hd hf hx hΦ hK
                  obtain ⟨hI, f0, f1, f2, f3, f4, f5, f6, f7, f8, f9, f10, f11, f12, f13⟩ := hΦ
                  refine ⟨fun _ => ?_, fun h => absurd h (by rw [Go.RE.wanted_none rfl]; decide)⟩
                  have d0 := f0 (hd 0 (by kernel_rfl))
                  have e55 : a.tmps[55]? = some (x 55) := hx 0 _ 55 rfl rfl (hd 0 (by kernel_rfl))
                  have d7 := f7 (hd 7 (by kernel_rfl))
                  have e62 : a.tmps[62]? = some (x 62) := hx 7 _ 62 rfl rfl (hd 7 (by kernel_rfl))
                  clear hf hx hd
                  have hc := at_valv d0 d7 (HRW.out.below hI) HA1.out.1 HMO.out HA1.out.2.1 HA1.out.2.2.1 HA1.out.2.2.2
                  obtain ⟨mk, mz, lp, r0, r1, r2, t0, t1, t2, u0, u1, u2, b0, b1, b2, hv, _, _, _, _⟩ := d0
                  obtain ⟨o', nm', a0', a1', a2', s0', s1', s2', hv', _, _, _⟩ := d7
                  rw [hv] at e55
                  rw [hv'] at e62
                  rw [hv, hv'] at hc
                  have HC : Hid (Calls Tryd.prog 16 _ _ fun e w' => e = .returned (.tuple #[.int .i64 (va : Int), .int .i64 0]) ∧ _) := Lib.hid hc
                  clear hc
                  go_simp
                  go_at_call 16
                  with_reducible refine HC.out.mono ?_
                  rintro e w' ⟨rfl, hB8⟩
                  simp only
                  refine hK _ _ ?_
                  exact ⟨below_tr hI hB8, fun h => (f0 h).below hB8, fun h => f1 h, fun h => f2 h, fun h => f3 h, fun h => f4 h, fun h => f5 h, fun h => (f6 h).below hB8, fun h => (f7 h).below hB8, fun _ => rfl, fun h => f9 h, fun h => f10 h, fun h => f11 h, fun h => f12 h, fun h => f13 h⟩
                · intro L x a wR K hL hd hf hx hΦ hK
                  obtain ⟨hI, f0, f1, f2, f3, f4, f5, f6, f7, f8, f9, f10, f11, f12, f13⟩ := hΦ
                  refine ⟨fun _ => ?_, fun h => absurd h (by rw [Go.RE.wanted_none rfl]; decide)⟩
                  have d8 := f8 (hd 8 (by kernel_rfl))
                  have e63 : a.tmps[63]? = some (x 63) := hx 8 _ 63 rfl rfl (hd 8 (by kernel_rfl))
                  rw [d8] at e63
                  clear hf hx hd
                  go_simp
                  refine hK _ _ ?_
                  exact ⟨hI, fun h => f0 h, fun h => f1 h, fun h => f2 h, fun h => f3 h, fun h => f4 h, fun h => f5 h, fun h => f6 h, fun h => f7 h, fun h => f8 h, fun _ => rfl, fun h => f10 h, fun h => f11 h, fun h => f12 h, fun h => f13 h⟩
                · intro L x a wR K hL hd hf hx hΦ hK
                  obtain ⟨hI, f0, f1, f2, f3, f4, f5, f6, f7, f8, f9, f10, f11, f12, f13⟩ := hΦ
                  refine ⟨fun _ => ?_, fun h => absurd h (by rw [Go.RE.wanted_none rfl]; decide)⟩
                  have d9 := f9 (hd 9 (by kernel_rfl))
                  have e54 : a.tmps[54]? = some (x 54) := hx 9 _ 54 rfl rfl (hd 9 (by kernel_rfl))
                  rw [d9] at e54
                  clear hf hx hd
                  go_simp
                  refine hK _ _ ?_
                  exact ⟨hI, fun h => f0 h, fun h => f1 h, fun h => f2 h, fun h => f3 h, fun h => f4 h, fun h => f5 h, fun h => f6 h, fun h => f7 h, fun h => f8 h, fun h => f9 h, fun _ => rfl, fun h => f11 h, fun h => f12 h, fun h => f13 h⟩
                · intro L x a wR K hL hd hf hx hΦ hK
                  obtain ⟨hI, f0, f1, f2, f3, f4, f5, f6, f7, f8, f9, f10, f11, f12, f13⟩ := hΦ
                  refine ⟨fun _ => ?_, fun h => absurd h (by rw [Go.RE.wanted_none rfl]; decide)⟩
                  have d9 := f9 (hd 9 (by kernel_rfl))
                  have e54 : a.tmps[54]? = some (x 54) := hx 9 _ 54 rfl rfl (hd 9 (by kernel_rfl))
                  rw [d9] at e54
                  clear hf hx hd
                  go_simp
                  refine hK _ _ ?_
                  exact ⟨hI, fun h => f0 h, fun h => f1 h, fun h => f2 h, fun h => f3 h, fun h => f4 h, fun h => f5 h, fun h => f6 h, fun h => f7 h, fun h => f8 h, fun h => f9 h, fun h => f10 h, fun _ => rfl, fun h => f12 h, fun h => f13 h⟩
                · intro L x a wR K hL hd hf hx hΦ hK
                  obtain ⟨hI, f0, f1, f2, f3, f4, f5, f6, f7, f8, f9, f10, f11, f12, f13⟩ := hΦ
                  refine ⟨fun _ => ?_, fun h => absurd h (by rw [Go.RE.wanted_none rfl]; decide)⟩
                  have d10 := f10 (hd 10 (by kernel_rfl))
                  have e64 : a.tmps[64]? = some (x 64) := hx 10 _ 64 rfl rfl (hd 10 (by kernel_rfl))
                  rw [d10] at e64
                  clear hf hx hd
                  go_simp
                  refine hK _ _ ?_
                  exact ⟨hI, fun h => f0 h, fun h => f1 h, fun h => f2 h, fun h => f3 h, fun h => f4 h, fun h => f5 h, fun h => f6 h, fun h => f7 h, fun h => f8 h, fun h => f9 h, fun h => f10 h, fun h => f11 h, fun _ => rfl, fun h => f13 h⟩
                · intro L x a wR K hL hd hf hx hΦ hK
                  obtain ⟨hI, f0, f1, f2, f3, f4, f5, f6, f7, f8, f9, f10, f11, f12, f13⟩ := hΦ
                  refine ⟨fun _ => ?_, fun h => absurd h (by rw [Go.RE.wanted_none rfl]; decide)⟩
                  have d11 := f11 (hd 11 (by kernel_rfl))
                  have e65 : a.tmps[65]? = some (x 65) := hx 11 _ 65 rfl rfl (hd 11 (by kernel_rfl))
                  rw [d11] at e65
                  clear hf hx hd
                  go_simp
                  refine hK _ _ ?_
                  exact ⟨hI, fun h => f0 h, fun h => f1 h, fun h => f2 h, fun h => f3 h, fun h => f4 h, fun h => f5 h, fun h => f6 h, fun h => f7 h, fun h => f8 h, fun h => f9 h, fun h => f10 h, fun h => f11 h, fun h => f12 h, fun _ => rfl⟩
                · rintro x W ⟨hI, f0, f1, f2, f3, f4, f5, f6, f7, f8, f9, f10, f11, f12, f13⟩
                  simp only [Exit.then]
                  go_step
                  go_meet
                  exact ⟨f12 rfl, f13 rfl, hI⟩
              case rest =>
                obtain ⟨rfl, rfl, hB⟩ := hcut
                obtain ⟨q5, hq5⟩ : ∃ q : World, q = wc := ⟨_, rfl⟩
                subst hq5
                have HB5 := Lib.hid hB
                obtain ⟨bf, hbf⟩ : ∃ b, b = fitsB (1 <<< i) out := ⟨_, rfl⟩
                obtain ⟨ci, hci⟩ : ∃ x, x = 1 <<< i := ⟨_, rfl⟩
                have hci8 : ci < 256 := by rw [hci]; rcases (by omega : i = 0 ∨ i = 1 ∨ i = 2) with rfl | rfl | rfl <;> decide
                have hy5 := own_below9 (HFR.out.owns HY3.out HOW.out) hB
                have HF14 : Hid (Calls Tryd.prog 21 #[.slice (some ⟨g3, 0, none⟩) n k3, .int .u8 (ci : Int)] q5 (RetB q5 bf)) := Lib.hid (by
                  have := fits_call q5 g3 0 n k3 out (isR_own hy5) HLC.out HCL.out.i.ok HN14.out.1 ci hci8
                  rwa [hci, ← hbf, ← hci] at this)
                unfold RetB at HF14
                have e1 : IntKind.u8.wrap ((2 : Int) ^ i) = (ci : Int) := by rw [hci]; rcases (by omega : i = 0 ∨ i = 1 ∨ i = 2) with rfl | rfl | rfl <;> decide
                have hmin : min i 8 = i := by omega
                have hmin2 : min i 64 = i := by omega
                have HBF := Lib.hid hbf
                have HCI := Lib.hid hci
                clear hB hbf hci hci8 hy5
                go_upto_region 15 with (go_at_call 21; ((with_reducible refine HF14.out.mono ?_); rintro e w6 ⟨rfl, hB6⟩))
                have HB6 := Lib.hid (below_tr HB5.out hB6)
                clear e1 hB6
                obtain ⟨qc, hqc⟩ : ∃ q, q = cc >>> i := ⟨_, rfl⟩
                have sh1 : (cc : Int) / 2 ^ i = (qc : Int) := by rw [hqc]; exact quo_nat cc i
                have hyes : bf = true → va = ev := fun h => by
                  have hf : FitsP (1 <<< i) out := by
                    have := HBF.out
                    rw [h] at this
                    unfold fitsB at this
                    exact (lackAll_iff HCL.out.i.ok).1 (by simpa using (Bool.and_eq_true_iff.1 this.symm).2)
                  rw [HVA.out, ax_yes HCL.out.i.ok (look3_all (R := fun m => m < 2 ^ out.length) (by rw [HLC.out]; exact HU0.out.1) (by rw [HLC.out]; exact HU.out.2.1) (by rw [HLC.out]; exact HU.out.2.2)) HI3.out hf ff, HEV.out, HLC.out]
                have hno : bf = false → cc.testBit i = false := fun h => by
                  rcases e : cc.testBit i with _ | _
                  · rfl
                  · have hf := fits_bit HI3.out (by rw [← HCB.out i HI3.out]; exact e) HCL.out.fits
                    have : fitsB (1 <<< i) out = true := by
                      unfold fitsB
                      rw [(lackAll_iff HCL.out.i.ok).2 hf]
                      have := HI3.out
                      rcases (by omega : i = 0 ∨ i = 1 ∨ i = 2) with h | h | h <;> (rw [h]; decide)
                    rw [← HBF.out, h] at this; cases this
                have HQ1 : Hid ((cc.testBit i = false ∧ bits .and .u8 (qc : Int) 1 = 0) ∨ (cc.testBit i = true ∧ bits .and .u8 (qc : Int) 1 = 1)) := Lib.hid (by
                  rw [← sh1]
                  rcases e : cc.testBit i with _ | _
                  · exact .inl ⟨rfl, bit0u HCC.out e⟩
                  · exact .inr ⟨rfl, bit1u HCC.out e⟩)
                clear hqc
                go_cut [90] from 70 to 89 (fun v wx => v = .bool false ∧ w6 = wx)
                case first =>
                  cases bf
                  · have hcb := hno rfl
                    rcases HQ1.out with ⟨t1, t2⟩ | ⟨t1, t2⟩
                    · clear hyes hno hcb t1 HQ1
                      go_wp2_with (fail)
                      go_meet
                      exact ⟨rfl, rfl⟩
                    · rw [hcb] at t1; cases t1
                  · have hve := hyes rfl
                    clear hyes hno
                    subst hve
                    rcases HQ1.out with ⟨t1, t2⟩ | ⟨t1, t2⟩
                    · clear t1 HQ1
                      go_wp2_with (fail)
                      go_meet
                      exact ⟨rfl, rfl⟩
                    · clear t1 HQ1
                      go_wp2_with (fail)
                      go_meet
                      exact ⟨rfl, rfl⟩
                case rest =>
                  obtain ⟨rfl, rfl⟩ := hcut
                  obtain ⟨q6, hq6⟩ : ∃ q : World, q = w6 := ⟨_, rfl⟩
                  subst hq6
                  have hfr6 := HFR.out.trans (HK.Frm.of_below HB6.out (fun b => b = fg))
                  have hfc6 := HFC2.out.below HB6.out
                  have hev := HEV.out
                  have HFR6 := Lib.hid hfr6
                  have HFC6 := Lib.hid hfc6
                  clear hyes hno HQ1 sh1 hmin hmin2 hfr6 hfc6 HM9 HRW HK4 HB1 HMO HA1 HVA HF14 HCI b0 hev
                  have qe : (0 : Int) ≤ (ev : Int) := by omega
                  go_wp2_with (fail)
                  go_loopw [18, 19] (fun al iv wr => ∃ (j : Nat) (V : Nat → Nat), j ≤ ev + 1 ∧ iv = .int .i64 j ∧ al = .bool (alwB i out u5 u6 ev j) ∧ HK.Frm (fun b => b = fg) q4 wr ∧ FcB fg V wr ∧ V 0 < 2 ^ n ∧ V 1 = u5 ∧ V 2 = u6) (fun _ iv _ => ev + 1 - (intOf iv).toNat)
                  case atStart => exact ⟨0, U, by omega, rfl, rfl, HFR6.out, HFC6.out, HU0.out⟩
                  case round =>
                    obtain ⟨j, V, hj, rfl, rfl, hfr, hfc, hv0, hv1, hv2⟩ := hrel
                    obtain ⟨ab, hab⟩ : ∃ ab, ab = alwB i out u5 u6 ev j := ⟨_, rfl⟩
                    rw [← hab]
                    by_cases hje : (j : Int) ≤ (ev : Int)
                    · have b0 : (0 : Int) ≤ (j : Int) := by omega
                      have hbx := hfr.heap HB9.out (by have := HNE.out; omega)
                      have c4 := HK.blk_cell hbx 4
                      obtain ⟨arr, harr, hcells⟩ := hfc
                      have d2 := (HK.blk_cell harr 2).trans (hcells 0 (by omega)).2.2
                      have cf := fun i => HK.blk_frozen harr i
                      have hset : FcB fg (fun z => if z = 0 then j else V z) (wr.setCell ⟨fg, 2, none⟩ (.int .i64 (j : Int))) := FcB.set (k := 0) ⟨arr, harr, hcells⟩ (by omega) j
                      have hfr7 := hfr.setCell (p := ⟨fg, 2, none⟩) (.inl rfl) (.int .i64 (j : Int))
                      go_upto_region 22 with (fail)
                      obtain ⟨q7, hq7⟩ : ∃ q, q = wr.setCell ⟨fg, 2, none⟩ (.int .i64 (j : Int)) := ⟨_, rfl⟩
                      rw [← hq7]
                      rw [← hq7] at hset hfr7
                      clear hbx c4 harr hcells d2 cf hq7 hfr
                      have hp2 := Nat.two_pow_pos n
                      have hjn : j < 2 ^ n := by have := HEV.out; omega
                      have hbx := hfr7.heap HB9.out (by have := HNE.out; omega)
                      have hbw : Below w.heap.size w q7 := HBL.out.trans (hfr7.below HBL.out.size (fun k hk => by have := HNE.out; omega))
                      have HM9 : Hid (MB q7 B9 (mdl 4 n out [j, u5, u6])) := Lib.hid (mb_of4 hbx (hfr7.owns HY3.out HOW.out) HLC.out hset rfl hv1 hv2)
                      have HRW := Lib.hid (HRW0.out.below hbw)
                      have HMO : Hid ((mdl 4 n out [j, u5, u6]).ok = true) := Lib.hid (mdl4_ok HCL.out.i.ok HLC.out HN14.out.1 hjn HU.out.2.1 HU.out.2.2)
                      obtain ⟨vm, hvm⟩ : ∃ vm, vm = semF false out (look3 j u5 u6) (axF i (AtomF (pqr 0))) := ⟨_, rfl⟩
                      have HA1 : Hid (AtIs (mdl 4 n out [j, u5, u6]) (axF i (AtomF (pqr 0))) vm) := Lib.hid (by rw [hvm]; exact ax_at (pln_atom true (by omega)) (by decide +kernel) (by decide +kernel))
                      have HVM := Lib.hid hvm
                      have HFR7 := Lib.hid hfr7
                      have HFC7 := Lib.hid hset
                      have HV0 := Lib.hid (And.intro hjn (And.intro hv1 hv2))
                      have HAB := Lib.hid hab
                      have HJE : Hid (j ≤ ev) := Lib.hid (by omega)
                      clear hfr7 hset hv0 hv1 hv2 hbx hbw hvm hp2 hjn hab
                      go_cut [20, 21] from 101 to 109 (fun u v wx => u = .int .i64 (vm : Int) ∧ v = .int .i64 0 ∧ Below q7.heap.size q7 wx)
                      case first =>
                        clear b0 hje hj hi hi3
                        refine Go.RE.wp_region_eachg [102, 103, 104, 105, 106, 107, 101, 108, 109, 20, 21] (fun L x W => (Below q7.heap.size q7 W) ∧ (L 0 = true → IsMv W (x 102) (mdl 4 n out [j, u5, u6])) ∧ (L 1 = true → x 103 = .func (.func 28) #[] #[]) ∧ (L 2 = true → x 104 = .int .i64 (i : Int)) ∧ (L 3 = true → IsFv W (x 105) (AtomF (pqr 0))) ∧ (L 4 = true → IsFv W (x 106) (axF i (AtomF (pqr 0)))) ∧ (L 5 = true → x 107 = .tuple #[.int .i64 (vm : Int), .int .i64 0]) ∧ (L 6 = true → x 101 = .tuple #[.int .i64 (vm : Int), .int .i64 0]) ∧ (L 7 = true → x 108 = .int .i64 (vm : Int)) ∧ (L 8 = true → x 109 = .int .i64 0) ∧ (L 9 = true → x 20 = .int .i64 (vm : Int)) ∧ (L 10 = true → x 21 = .int .i64 0)) (by kernel_rfl) (by kernel_rfl) (by kernel_rfl) ?_ ((Go.RE.Each.cons ?_ (Go.RE.Each.cons ?_ (Go.RE.Each.cons ?_ (Go.RE.Each.cons ?_ (Go.RE.Each.cons ?_ (Go.RE.Each.cons ?_ (Go.RE.Each.cons ?_ (Go.RE.Each.cons ?_ (Go.RE.Each.cons ?_ (Go.RE.Each.cons ?_ (Go.RE.Each.cons ?_ Go.RE.Each.nil)))))))))))) ?_
                        · exact fun x => ⟨bl_dr (Below.refl _ _), fun h => (by cases h), fun h => (by cases h), fun h => (by cases h), fun h => (by cases h), fun h => (by cases h), fun h => (by cases h), fun h => (by cases h), fun h => (by cases h), fun h => (by cases h), fun h => (by cases h), fun h => (by cases h)⟩
                        · intro L x a wR K hL hd hf hx hΦ hK
                          obtain ⟨hI, f0, f1, f2, f3, f4, f5, f6, f7, f8, f9, f10⟩ := hΦ
                          refine ⟨fun _ => ?_, fun h => absurd h (by rw [Go.RE.wanted_none rfl]; decide)⟩
                          have e9 : a.tmps[9]? = some (.pointer (some ⟨B9, 0, none⟩)) := hf 9 (of_decide_eq_true (by kernel_rfl))
                          clear hf hx hd
                          obtain ⟨mk, mz, lp, r0, r1, r2, t0, t1, t2, u0, u1, u2, b0, b1, b2, hb, h2, h3, h5, h4⟩ := (HM9.out.below hI)
                          have cc := HK.blk_cell hb
                          have c0 := cc 0
                          have c1 := cc 1
                          have c2 := cc 2
                          have c3 := cc 3
                          have c4 := cc 4
                          have c5 := cc 5
                          have c6 := cc 6
                          clear cc
                          go_simp
                          refine hK _ _ ?_
                          exact ⟨hI, fun _ => ⟨mk, mz, lp, r0, r1, r2, t0, t1, t2, u0, u1, u2, b0, b1, b2, rfl, h2, h3, h5, h4⟩, fun h => f1 h, fun h => f2 h, fun h => f3 h, fun h => f4 h, fun h => f5 h, fun h => f6 h, fun h => f7 h, fun h => f8 h, fun h => f9 h, fun h => f10 h⟩
                        · intro L x a wR K hL hd hf hx hΦ hK
                          obtain ⟨hI, f0, f1, f2, f3, f4, f5, f6, f7, f8, f9, f10⟩ := hΦ
                          refine ⟨fun _ => ?_, fun h => absurd h (by rw [Go.RE.wanted_none rfl]; decide)⟩
                          have e13 : a.tmps[13]? = some (.func (.func 28) #[] #[]) := hf 13 (of_decide_eq_true (by kernel_rfl))
                          clear hf hx hd
                          go_simp
                          refine hK _ _ ?_
                          exact ⟨hI, fun h => f0 h, fun _ => rfl, fun h => f2 h, fun h => f3 h, fun h => f4 h, fun h => f5 h, fun h => f6 h, fun h => f7 h, fun h => f8 h, fun h => f9 h, fun h => f10 h⟩
                        · intro L x a wR K hL hd hf hx hΦ hK
                          obtain ⟨hI, f0, f1, f2, f3, f4, f5, f6, f7, f8, f9, f10⟩ := hΦ
                          refine ⟨fun _ => ?_, fun h => absurd h (by rw [Go.RE.wanted_none rfl]; decide)⟩
                          have e14 : a.tmps[14]? = some (.int .i64 (i : Int)) := hf 14 (of_decide_eq_true (by kernel_rfl))
                          clear hf hx hd
                          go_simp
                          refine hK _ _ ?_
                          exact ⟨hI, fun h => f0 h, fun h => f1 h, fun _ => rfl, fun h => f3 h, fun h => f4 h, fun h => f5 h, fun h => f6 h, fun h => f7 h, fun h => f8 h, fun h => f9 h, fun h => f10 h⟩
                        · intro L x a wR K hL hd hf hx hΦ hK
                          obtain ⟨hI, f0, f1, f2, f3, f4, f5, f6, f7, f8, f9, f10⟩ := hΦ
                          refine ⟨fun _ => ?_, fun h => absurd h (by rw [Go.RE.wanted_none rfl]; decide)⟩
                          clear hf hx hd
                          have HC : Hid (Calls Tryd.prog 29 #[.string ⟨#[80]⟩] wR _) := Lib.hid (atom_call wR ⟨#[80]⟩)
                          go_simp
                          go_at_call 29
                          with_reducible refine HC.out.mono ?_
                          rintro e w' ⟨rfl, hw8⟩
                          have hB8 : Below wR.heap.size wR w' := by rw [hw8]; exact below_alloc _ _
                          refine hK _ _ ?_
                          exact ⟨below_tr hI hB8, fun h => (f0 h).below hB8, fun h => f1 h, fun h => f2 h, fun _ => of_fv (isFm_atom 0), fun h => (f4 h).below hB8, fun h => f5 h, fun h => f6 h, fun h => f7 h, fun h => f8 h, fun h => f9 h, fun h => f10 h⟩
                        · intro L x a wR K hL hd hf hx hΦ hK
                          obtain ⟨hI, f0, f1, f2, f3, f4, f5, f6, f7, f8, f9, f10⟩ := hΦ
                          refine ⟨fun _ => ?_, fun h => absurd h (by rw [Go.RE.wanted_none rfl]; decide)⟩
                          have d1 := f1 (hd 1 (by kernel_rfl))
                          have e103 : a.tmps[103]? = some (x 103) := hx 1 _ 103 rfl rfl (hd 1 (by kernel_rfl))
                          rw [d1] at e103
                          have d2 := f2 (hd 2 (by kernel_rfl))
                          have e104 : a.tmps[104]? = some (x 104) := hx 2 _ 104 rfl rfl (hd 2 (by kernel_rfl))
                          rw [d2] at e104
                          have d3 := f3 (hd 3 (by kernel_rfl))
                          have e105 : a.tmps[105]? = some (x 105) := hx 3 _ 105 rfl rfl (hd 3 (by kernel_rfl))
                          clear hf hx hd
                          have hc := axiom_call wR i HI3.out _ _ d3
                          obtain ⟨o', nm', a0', a1', a2', s0', s1', s2', hv', _, _, _⟩ := d3
                          rw [hv'] at e105
                          rw [hv'] at hc
                          have HC := Lib.hid hc
                          clear hc
                          go_simp
                          go_at_call 28
                          with_reducible refine HC.out.mono ?_
                          rintro e w' ⟨u, rfl, hfv, hB8⟩
                          simp only
                          refine hK _ _ ?_
                          exact ⟨below_tr hI hB8, fun h => (f0 h).below hB8, fun h => f1 h, fun h => f2 h, fun h => (f3 h).below hB8, fun _ => hfv, fun h => f5 h, fun h => f6 h, fun h => f7 h, fun h => f8 h, fun h => f9 h, fun h => f10 h⟩
                        · intro L x a wR K hL hd hf hx hΦ hK
                          obtain ⟨hI, f0, f1, f2, f3, f4, f5, f6, f7, f8, f9, f10⟩ := hΦ
                          refine ⟨fun _ => ?_, fun h => absurd h (by rw [Go.RE.wanted_none rfl]; decide)⟩
                          have d0 := f0 (hd 0 (by kernel_rfl))
                          have e102 : a.tmps[102]? = some (x 102) := hx 0 _ 102 rfl rfl (hd 0 (by kernel_rfl))
                          have d4 := f4 (hd 4 (by kernel_rfl))
                          have e106 : a.tmps[106]? = some (x 106) := hx 4 _ 106 rfl rfl (hd 4 (by kernel_rfl))
                          clear hf hx hd
                          have hc := at_valv d0 d4 (HRW.out.below hI) HA1.out.1 HMO.out HA1.out.2.1 HA1.out.2.2.1 HA1.out.2.2.2
                          obtain ⟨mk, mz, lp, r0, r1, r2, t0, t1, t2, u0, u1, u2, b0, b1, b2, hv, _, _, _, _⟩ := d0
                          obtain ⟨o', nm', a0', a1', a2', s0', s1', s2', hv', _, _, _⟩ := d4
                          rw [hv] at e102
                          rw [hv'] at e106
                          rw [hv, hv'] at hc
                          have HC : Hid (Calls Tryd.prog 16 _ _ fun e w' => e = .returned (.tuple #[.int .i64 (vm : Int), .int .i64 0]) ∧ _) := Lib.hid hc
                          clear hc
                          go_simp
                          go_at_call 16
                          with_reducible refine HC.out.mono ?_
                          rintro e w' ⟨rfl, hB8⟩
                          simp only
                          refine hK _ _ ?_
                          exact ⟨below_tr hI hB8, fun h => (f0 h).below hB8, fun h => f1 h, fun h => f2 h, fun h => (f3 h).below hB8, fun h => (f4 h).below hB8, fun _ => rfl, fun h => f6 h, fun h => f7 h, fun h => f8 h, fun h => f9 h, fun h => f10 h⟩
                        · intro L x a wR K hL hd hf hx hΦ hK
                          obtain ⟨hI, f0, f1, f2, f3, f4, f5, f6, f7, f8, f9, f10⟩ := hΦ
                          refine ⟨fun _ => ?_, fun h => absurd h (by rw [Go.RE.wanted_none rfl]; decide)⟩
                          have d5 := f5 (hd 5 (by kernel_rfl))
                          have e107 : a.tmps[107]? = some (x 107) := hx 5 _ 107 rfl rfl (hd 5 (by kernel_rfl))
                          rw [d5] at e107
                          clear hf hx hd
                          go_simp
                          refine hK _ _ ?_
                          exact ⟨hI, fun h => f0 h, fun h => f1 h, fun h => f2 h, fun h => f3 h, fun h => f4 h, fun h => f5 h, fun _ => rfl, fun h => f7 h, fun h => f8 h, fun h => f9 h, fun h => f10 h⟩
                        · intro L x a wR K hL hd hf hx hΦ hK
                          obtain ⟨hI, f0, f1, f2, f3, f4, f5, f6, f7, f8, f9, f10⟩ := hΦ
                          refine ⟨fun _ => ?_, fun h => absurd h (by rw [Go.RE.wanted_none rfl]; decide)⟩
                          have d6 := f6 (hd 6 (by kernel_rfl))
                          have e101 : a.tmps[101]? = some (x 101) := hx 6 _ 101 rfl rfl (hd 6 (by kernel_rfl))
                          rw [d6] at e101
                          clear hf hx hd
                          go_simp
                          refine hK _ _ ?_
                          exact ⟨hI, fun h => f0 h, fun h => f1 h, fun h => f2 h, fun h => f3 h, fun h => f4 h, fun h => f5 h, fun h => f6 h, fun _ => rfl, fun h => f8 h, fun h => f9 h, fun h => f10 h⟩
                        · intro L x a wR K hL hd hf hx hΦ hK
                          obtain ⟨hI, f0, f1, f2, f3, f4, f5, f6, f7, f8, f9, f10⟩ := hΦ
                          refine ⟨fun _ => ?_, fun h => absurd h (by rw [Go.RE.wanted_none rfl]; decide)⟩
                          have d6 := f6 (hd 6 (by kernel_rfl))
                          have e101 : a.tmps[101]? = some (x 101) := hx 6 _ 101 rfl rfl (hd 6 (by kernel_rfl))
                          rw [d6] at e101
                          clear hf hx hd
                          go_simp
                          refine hK _ _ ?_
                          exact ⟨hI, fun h => f0 h, fun h => f1 h, fun h => f2 h, fun h => f3 h, fun h => f4 h, fun h => f5 h, fun h => f6 h, fun h => f7 h, fun _ => rfl, fun h => f9 h, fun h => f10 h⟩
                        · intro L x a wR K hL hd hf hx hΦ hK
                          obtain ⟨hI, f0, f1, f2, f3, f4, f5, f6, f7, f8, f9, f10⟩ := hΦ
                          refine ⟨fun _ => ?_, fun h => absurd h (by rw [Go.RE.wanted_none rfl]; decide)⟩
                          have d7 := f7 (hd 7 (by kernel_rfl))
                          have e108 : a.tmps[108]? = some (x 108) := hx 7 _ 108 rfl rfl (hd 7 (by kernel_rfl))
                          rw [d7] at e108
                          clear hf hx hd
                          go_simp
                          refine hK _ _ ?_
                          exact ⟨hI, fun h => f0 h, fun h => f1 h, fun h => f2 h, fun h => f3 h, fun h => f4 h, fun h => f5 h, fun h => f6 h, fun h => f7 h, fun h => f8 h, fun _ => rfl, fun h => f10 h⟩
                        · intro L x a wR K hL hd hf hx hΦ hK
                          obtain ⟨hI, f0, f1, f2, f3, f4, f5, f6, f7, f8, f9, f10⟩ := hΦ
                          refine ⟨fun _ => ?_, fun h => absurd h (by rw [Go.RE.wanted_none rfl]; decide)⟩
                          have d8 := f8 (hd 8 (by kernel_rfl))
                          have e109 : a.tmps[109]? = some (x 109) := hx 8 _ 109 rfl rfl (hd 8 (by kernel_rfl))
                          rw [d8] at e109
                          clear hf hx hd
                          go_simp
                          refine hK _ _ ?_
                          exact ⟨hI, fun h => f0 h, fun h => f1 h, fun h => f2 h, fun h => f3 h, fun h => f4 h, fun h => f5 h, fun h => f6 h, fun h => f7 h, fun h => f8 h, fun h => f9 h, fun _ => rfl⟩
                        · rintro x W ⟨hI, f0, f1, f2, f3, f4, f5, f6, f7, f8, f9, f10⟩
                          simp only [Exit.then]
                          go_step
                          go_meet
                          exact ⟨f9 rfl, f10 rfl, hI⟩
                      case rest =>
                        obtain ⟨rfl, rfl, hB⟩ := hcut
                        have HB7 := Lib.hid hB
                        clear hB
                        have hnx : alwB i out u5 u6 ev (j + 1) = (ab && decide (vm = ev)) := by rw [HAB.out, HVM.out]; rfl
                        have HNX := Lib.hid hnx
                        clear hnx
                        have hev15 : ev < 16 := by have := HEV.out; have := pow_le4 HN14.out.2; omega
                        have hj15 : j ≤ ev := HJE.out
                        by_cases hve : vm = ev
                        · subst hve
                          cases ab
                          all_goals (
                            go_wp2_with (fail)
                            go_roundw
                            case rel => exact ⟨j + 1, _, by have := HJE.out; omega, by go_num, by rw [HNX.out]; first | rfl | simp, HFR7.out.trans (HK.Frm.of_below HB7.out _), HFC7.out.below HB7.out, HV0.out⟩
                            case measure => have := HJE.out; simp [intOf]; omega)
                        · have hve2 : ((vm : Int) == (ev : Int)) = false := by simp; omega
                          have hve3 : ¬ ((vm : Int) = (ev : Int)) := by omega
                          cases ab
                          all_goals (
                            go_wp2_with (fail)
                            go_roundw
                            case rel => exact ⟨j + 1, _, by have := HJE.out; omega, by go_num, by rw [HNX.out]; first | rfl | simp [hve], HFR7.out.trans (HK.Frm.of_below HB7.out _), HFC7.out.below HB7.out, HV0.out⟩
                            case measure => have := HJE.out; simp [intOf]; omega)
                    · have hjv : j = ev + 1 := by omega
                      have hal : ab = bf := by
                        have hp2 := Nat.two_pow_pos n
                        have hevn := HEV.out
                        have hlk : ∀ m, m ≤ ev → LookOk out.length (look3 m u5 u6) := fun m hm => look3_all (R := fun m => m < 2 ^ out.length) (by rw [HLC.out]; omega) (by rw [HLC.out]; exact HU.out.2.1) (by rw [HLC.out]; exact HU.out.2.2)
                        have hfit : bf = true ↔ FitsP (1 <<< i) out := by
                          rw [HBF.out, ← lackAll_iff HCL.out.i.ok]
                          unfold fitsB
                          rw [Bool.and_eq_true]
                          refine ⟨fun h => h.2, fun h => ⟨?_, h⟩⟩
                          have := HI3.out
                          rcases (by omega : i = 0 ∨ i = 1 ∨ i = 2) with h | h | h <;> (rw [h]; decide)
                        rw [Bool.eq_iff_iff, hab, alwB_iff, hfit]
                        constructor
                        · intro h
                          refine Classical.byContradiction fun hn => ?_
                          obtain ⟨m, hm, hm2⟩ := ax_mask HCL.out.i.ok HI3.out hn
                          rw [HLC.out] at hm hm2
                          rw [← hevn] at hm hm2
                          exact hm2 (look3 m u5 u6) (AtomF (pqr 0)) (by rw [← HLC.out]; exact hlk m hm) (sem_atomP out m u5 u6) (h m (by omega))
                        · intro hf m hm
                          rw [ax_yes HCL.out.i.ok (hlk m (by omega)) HI3.out hf, HLC.out, hevn]
                      clear hab
                      subst hal
                      have HFR8 := Lib.hid hfr
                      have HFC8 := Lib.hid hfc
                      have HV8 := Lib.hid (And.intro hv0 (And.intro hv1 hv2))
                      clear hfr hfc hv0 hv1 hv2 hjv
                      cases ab
                      all_goals (
                        go_wp2_with (fail)
                        go_roundw
                        case rel => exact ⟨i + 1, V, by have := HI3.out; omega, by go_num, HFR8.out, HFC8.out, HV8.out⟩
                        case measure => simp [intOf]; omega)
            · go_wp2_with (fail)
              go_ret
              exact ⟨rfl, HBL.out.trans (hfr.below HBL.out.size (fun k hk => by have := HNE.out; omega))⟩
end Go.Proofs.YtflmllablfjfeaaDoor
