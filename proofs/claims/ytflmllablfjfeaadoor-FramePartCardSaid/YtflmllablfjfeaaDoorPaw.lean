/- Frame: the walk of FramePart (9). paw.py prints this text. -/
import Derived.Test.YtflmllablfjfeaaDoorPak
import Derived.Test.YtflmllablfjfeaaDoorFsx
namespace Go.Proofs.YtflmllablfjfeaaDoor
open Go.RowKit Go.HK Go.FR
set_option linter.unusedVariables false
set_option linter.unusedSimpArgs false
set_option linter.unusedSectionVars false
set_option maxRecDepth 100000 in
set_option maxHeartbeats 16000000 in
theorem fpart_walk (w : World) (force : Bool) (s : Nat) (F : Nat → Nat) (x0 : Option Addr) (xn xc : Nat) (l : List Nat) (wo : Nat) (hrw : IsRows w) (hs : s < 256) (hF : ∀ i, F i < 256) (hl : l.length = xn) (hl2 : xn ≤ 9223372036854775807) (hby : IsBy w x0 l) (hwo : wo < 256) :
    Calls Tryd.prog 9 #[.bool force, .int .u8 (s : Int), .agg (sevenV F), .slice x0 xn xc, .int .u8 (wo : Int)] w (RetW w true) := by
  obtain ⟨n, hn⟩ : ∃ n, n = 1 + s % 4 := ⟨_, rfl⟩
  have h1 : 1 ≤ n := by omega
  have h4 : n ≤ 4 := by omega
  obtain ⟨kd, hkd⟩ : ∃ kd, kd = if force then 3 else 4 := ⟨_, rfl⟩
  obtain ⟨rl, hrl⟩ : ∃ rl, rl = if force then fRel n F n else madeR n F n := ⟨_, rfl⟩
  obtain ⟨u4, hu4⟩ : ∃ u, u = if force then upK (fRel n F n) (F 4) n else F 4 % 2 ^ n := ⟨_, rfl⟩
  obtain ⟨u5, hu5⟩ : ∃ u, u = if force then upK (fRel n F n) (F 5) n else F 5 % 2 ^ n := ⟨_, rfl⟩
  obtain ⟨u6, hu6⟩ : ∃ u, u = if force then upK (fRel n F n) (F 6) n else F 6 % 2 ^ n := ⟨_, rfl⟩
  obtain ⟨ff, hff⟩ : ∃ ff, ff = builtF (decide (kd = 4)) l := ⟨_, rfl⟩
  obtain ⟨wd, hwd⟩ : ∃ wd, wd = wo % n := ⟨_, rfl⟩
  have hwn : wd < n := by rw [hwd]; exact Nat.mod_lt _ (by omega)
  have hk34 : kd = 3 ∨ kd = 4 := by rw [hkd]; cases force <;> simp
  have hro : FrOk rl := by
    rw [hrl]
    cases force
    · exact madeR_frok n h1 h4 F
    · exact (forced_forc n h1 h4 F).1.ok
  have hlen : rl.length = n := by
    rw [hrl]
    cases force
    · exact madeR_len n F n
    · exact fRel_len n F n
  have hpw : ∀ x : Nat, x % 2 ^ n < 2 ^ n := fun x => Nat.mod_lt _ (Nat.two_pow_pos n)
  have hu : ∀ m, m = u4 ∨ m = u5 ∨ m = u6 → m < 2 ^ rl.length ∧ (kd = 3 → UpM rl m) := fun m hm => by
    rw [hlen]
    cases force
    · simp only [Bool.false_eq_true, if_false] at hu4 hu5 hu6 hkd
      refine ⟨?_, fun e => by omega⟩
      rcases hm with rfl | rfl | rfl
      · rw [hu4]; exact hpw _
      · rw [hu5]; exact hpw _
      · rw [hu6]; exact hpw _
    · simp only [if_true] at hu4 hu5 hu6 hkd hrl
      have hfo := (forced_forc n h1 h4 F).1
      have hfl := fRel_len n F n
      rw [hrl]
      rcases hm with rfl | rfl | rfl
      · rw [hu4]; exact ⟨by have := upK_lt hfo.ok (F 4) n; rwa [hfl] at this, fun _ => upK_up hfo _ _⟩
      · rw [hu5]; exact ⟨by have := upK_lt hfo.ok (F 5) n; rwa [hfl] at this, fun _ => upK_up hfo _ _⟩
      · rw [hu6]; exact ⟨by have := upK_lt hfo.ok (F 6) n; rwa [hfl] at this, fun _ => upK_up hfo _ _⟩
  have hsu : suitsB (decide (kd = 3)) 0 rl (n - 1) = true := by
    cases force
    · simp only [Bool.false_eq_true, if_false] at hkd
      subst hkd
      exact suits_all _ _
    · simp only [if_true] at hkd hrl
      subst hkd
      rw [hrl]; exact forced_suits n h1 h4 F
  have hfc : kd = 3 → Forc rl := fun e => by
    cases force
    · simp only [Bool.false_eq_true, if_false] at hkd; omega
    · simp only [if_true] at hrl; rw [hrl]; exact (forced_forc n h1 h4 F).1
  have h16 : ∀ m, m < 2 ^ rl.length → m < 16 := fun m h => Nat.lt_of_lt_of_le h (pow_le4 hro.len)
  have hmok : (mdl kd n rl [u4, u5, u6]).ok = true := mdl_ok hk34 hro hlen h1 hsu fun m hm => ⟨(hu m hm).1, fun e => persK_of hro (h16 m (hu m hm).1) ((hu m hm).2 (by simpa using e)) _⟩
  have hb4 := (hu u4 (.inl rfl)).1
  have hb5 := (hu u5 (.inr (.inl rfl))).1
  have hb6 := (hu u6 (.inr (.inr rfl))).1
  obtain ⟨old, hold⟩ : ∃ old, old = oldS rl wd := ⟨_, rfl⟩
  have hpo : PartOk rl wd old := by rw [hold]; exact part_ok hro (by omega)
  obtain ⟨pl, hpl⟩ : ∃ pl, pl = relS rl old := ⟨_, rfl⟩
  obtain ⟨k, hk⟩ : ∃ k, k = old.length := ⟨_, rfl⟩
  obtain ⟨p4, hp4⟩ : ∃ p, p = movS old u4 := ⟨_, rfl⟩
  obtain ⟨p5, hp5⟩ : ∃ p, p = movS old u5 := ⟨_, rfl⟩
  obtain ⟨p6, hp6⟩ : ∃ p, p = movS old u6 := ⟨_, rfl⟩
  have hpok : (mdl kd k pl [p4, p5, p6]).ok = true := by
    rw [hk, hpl, hp4, hp5, hp6]
    exact part_mdl hk34 hro hpo hlen h1 hsu fun e => ⟨hfc e, (hu u4 (.inl rfl)).2 e, (hu u5 (.inr (.inl rfl))).2 e, (hu u6 (.inr (.inr rfl))).2 e⟩
  have hpro : FrOk pl := by rw [hpl]; exact relS_ok hro hpo
  have hplen : pl.length = k := by rw [hpl, hk, relS_len]
  have hpos : 1 ≤ k := by rw [hk]; exact hpo.pos
  have hkn : k ≤ n := by rw [hk]; have := hpo.len; omega
  have hq : ∀ m, movS old m < 16 := fun m => Nat.lt_of_lt_of_le (movS_lt old m) (pow_le4 (by omega))
  have hag : oldS pl 0 = List.range k := by rw [hpl, hk]; exact part_again hro hpo
  have hself : ∀ m, movS (List.range k) (movS old m) = movS old m := fun m => movS_self (by rw [hk]; exact movS_lt _ _)
  have hrs : relS pl (List.range k) = pl := by rw [← hplen]; exact relS_range hpro
  obtain ⟨va, hva⟩ : ∃ va, va = semF (decide (kd = 3)) rl (look3 u4 u5 u6) ff := ⟨_, rfl⟩
  obtain ⟨vi, hvi⟩ : ∃ vi, vi = va.testBit wd := ⟨_, rfl⟩
  have hlk : LookOk rl.length (look3 u4 u5 u6) := look3_all (R := fun m => m < 2 ^ rl.length) hb4 hb5 hb6
  have hva16 : va < 16 := by rw [hva]; exact semF_16 hro hlk _
  have hpln := built_pln (decide (kd = 4)) l
  rw [← hff] at hpln
  have hps := part_sem (force := decide (kd = 3)) hro hpo hb4 hb5 hb6 ff
  rw [← hva, ← hvi, ← hpl, ← hp4, ← hp5, ← hp6] at hps
  have HA1 : Hid (AtIs (mdl kd n rl [u4, u5, u6]) ff va) := Lib.hid (pln_at (modal := decide (kd = 4)) (fun h => by simpa using h) hpln.1 (by omega) (by omega) hva.symm)
  have HA2 : Hid (HoIs (mdl kd k pl [p4, p5, p6]) ff vi) := Lib.hid (pln_ho (modal := decide (kd = 4)) (fun h => by simpa using h) hpln.1 (by omega) (by omega) hps)
  have HMO := Lib.hid hmok
  have HPO := Lib.hid hpok
  have HLEN := Lib.hid hlen
  have HKD : Hid (kd < 256) := Lib.hid (by omega)
  have HPA : Hid (∀ W v, IsMv W v (mdl kd n rl [u4, u5, u6]) → Calls Tryd.prog 30 #[v, .int .i64 (wd : Int)] W (RetPv W (mdl kd k pl [p4, p5, p6]))) := Lib.hid fun W v hv => by
    have := part_valv hv hmok hro hlen h1 (h16 _ hb4) (h16 _ hb5) (h16 _ hb6) (by omega) hwn
    rw [← hold, ← hpl, ← hk, ← hp4, ← hp5, ← hp6] at this
    exact this
  have HPB : Hid (∀ W v, IsMv W v (mdl kd k pl [p4, p5, p6]) → Calls Tryd.prog 30 #[v, .int .i64 0] W (RetPv W (mdl kd k pl [p4, p5, p6]))) := Lib.hid fun W v hv => by
    have := part_valv hv hpok hpro hplen hpos (by rw [hp4]; exact hq _) (by rw [hp5]; exact hq _) (by rw [hp6]; exact hq _) (by omega) (show 0 < k by omega)
    rw [hag, hrs, List.length_range] at this
    rw [hp4, hp5, hp6, hself, hself, hself, ← hp4, ← hp5, ← hp6] at this
    exact this
  have HLP : Hid (pl.length ≤ 4) := Lib.hid hpro.len
  have HVI := Lib.hid hvi
  have HVA := Lib.hid hva16
  have HL := Lib.hid hl
  have HMD : Hid ((wo : Int).tmod (n : Int) = (wd : Int) ∧ (wo : Int) % (n : Int) = (wd : Int)) := Lib.hid ⟨by rw [hwd, ← Int.ofNat_tmod], by rw [hwd]; omega⟩
  have HWO : Hid (IntKind.i64.wrap (wo : Int) = (wo : Int)) := Lib.hid (IntWalk.i64_in _ (by omega))
  have HN14 := Lib.hid (And.intro h1 h4)
  have HKN := Lib.hid hkn
  have HMW : Hid (min wd 64 = wd) := Lib.hid (by omega)
  have HX : Hid (∀ W, Below w.heap.size w W → Calls Tryd.prog 14 #[.int .u8 (kd : Int), .slice x0 xn xc] W (RetFn W ff)) := Lib.hid fun W h => by
    rw [hff]; exact built_fresh W kd x0 xn xc l (by omega) hl hl2 (hby.below h)
  have HFA : Hid (force = false → kd = 4 ∧ rl = madeR n F n ∧ u4 = F 4 % 2 ^ n ∧ u5 = F 5 % 2 ^ n ∧ u6 = F 6 % 2 ^ n) := Lib.hid fun e => by
    subst e
    simp only [Bool.false_eq_true, if_false] at hu4 hu5 hu6 hkd hrl
    exact ⟨hkd, hrl, hu4, hu5, hu6⟩
  have HZP : Hid (¬ n = 0) := Lib.hid (by omega)
  have HFB : Hid (∀ q, Calls Tryd.prog 19 #[.int .u8 (s : Int), .agg (sevenV F)] q (RetMo q 4 n (madeR n F n) [F 4 % 2 ^ n, F 5 % 2 ^ n, F 6 % 2 ^ n])) := Lib.hid fun q => by
    have := made_call q s F hs hF
    rw [← hn] at this
    exact this
  have HFD : Hid (force = true → ∀ q, Calls Tryd.prog 13 #[.int .u8 (s : Int), .agg (sevenV F)] q (RetMo q 3 n rl [u4, u5, u6]) ∧ kd = 3) := Lib.hid fun e q => by
    subst e
    simp only [if_true] at hu4 hu5 hu6 hkd hrl
    have := forced_call q s F hs hF
    rw [← hrl] at hu4 hu5 hu6
    rw [← hn, ← hrl, ← hu4, ← hu5, ← hu6] at this
    exact ⟨this, hkd⟩
  have hw1 : ∀ o, Below w.heap.size w (w.alloc o) := fun o => below_alloc w o
  have HAW : Hid (∀ o, Calls Tryd.prog 12 #[] (w.alloc o) (RetW (w.alloc o) true)) := Lib.hid fun o => awake_call (w.alloc o) (hrw.below (hw1 o))
  unfold RetW at HAW
  unfold RetFn at HX
  have HRW0 := Lib.hid hrw
  clear hn hkd hrl hu4 hu5 hu6 hff hwd hwn hk34 hro hlen hpw hu hsu hfc h16 hmok hb4 hb5 hb6 hold hpo hpl hk hp4 hp5 hp6 hpok hpro hplen hpos hkn hq hag hself hrs hva hvi hlk hva16 hpln hps hs hF hl hl2 hby hwo hw1 hrw h1 h4
  show Calls Tryd.prog 9 #[.bool force, .int .u8 (s : Int), .agg #[.int .u8 (F 0 : Nat), .int .u8 (F 1 : Nat), .int .u8 (F 2 : Nat), .int .u8 (F 3 : Nat), .int .u8 (F 4 : Nat), .int .u8 (F 5 : Nat), .int .u8 (F 6 : Nat)], .slice x0 xn xc, .int .u8 (wo : Int)] w _
  go_enter Tryd.func9, Tryd.ntmps9
  go_upto_region 3 with (go_at_call 12; ((with_reducible refine (HAW.out _).mono ?_); rintro e q0 ⟨rfl, hB⟩))
  have hsv := (hB.block w.heap.size (by simp)).trans (HK.blk_new w _)
  have HSV := Lib.hid hsv
  have HBL := Lib.hid (below_tr (below_alloc w _) hB)
  have HRW := Lib.hid (HRW0.out.below HBL.out)
  clear hsv hB
  go_cut [11] from 24 to 26 (fun v11 wx => ∃ B g c fg fc, v11 = .pointer (some ⟨B, 0, none⟩) ∧ wx.heap[B]? = some (.cells #[.int .u8 4, .int .i64 (n : Int), .slice (some ⟨g, 0, none⟩) n c, .int .i64 0, .slice (some ⟨fg, 0, none⟩) 3 fc, .slice none 0 0, .slice none 0 0] 30 (0, 0)) ∧ wx.ownsRow q0.heap.size 3 1 (.slice (some ⟨g, 0, none⟩) n c) n (ints (madeR n F n)) ∧ wx.ownsRow q0.heap.size 46 3 (.slice (some ⟨fg, 0, none⟩) 3 fc) 3 (fcs 0 [F 4 % 2 ^ n, F 5 % 2 ^ n, F 6 % 2 ^ n]) ∧ q0.heap.size ≤ B ∧ Below q0.heap.size q0 wx)
  case first =>
    have cc := HK.blk_cell HSV.out
    have c0 := cc 0
    have c1 := cc 1
    have c2 := cc 2
    have c3 := cc 3
    have c4 := cc 4
    have c5 := cc 5
    have c6 := cc 6
    clear cc
    have HC : Hid (Calls Tryd.prog 19 #[.int .u8 (s : Int), .agg #[.int .u8 (F 0 : Nat), .int .u8 (F 1 : Nat), .int .u8 (F 2 : Nat), .int .u8 (F 3 : Nat), .int .u8 (F 4 : Nat), .int .u8 (F 5 : Nat), .int .u8 (F 6 : Nat)]] q0 _) := Lib.hid (HFB.out q0)
    unfold RetMo at HC
    go_wp2_with (go_at_call 19; ((with_reducible refine HC.out.mono ?_); rintro e w' ⟨g, c, fg, fc, rfl, hB, ho1, ho2⟩))
    go_meet
    exact ⟨_, g, c, fg, fc, rfl, HK.blk_new _ _, own_below9 ho1 (below_alloc _ _), own_below9 ho2 (below_alloc _ _), hB.size, below_tr hB (below_alloc _ _)⟩
  case rest =>
    obtain ⟨B11, g9, c9, fg9, fc9, rfl, hb0, ho1, ho2, hge, hB⟩ := hcut
    have HB0 := Lib.hid hb0
    have HO1 := Lib.hid ho1
    have HO2 := Lib.hid ho2
    have HGE := Lib.hid hge
    have HBC := Lib.hid hB
    have hsv1 := blk_up9 (HBC.out) HSV.out
    have HSV1 := Lib.hid hsv1
    obtain ⟨q1, hq1⟩ : ∃ q : World, q = wc := ⟨_, rfl⟩
    subst hq1
    clear hb0 ho1 ho2 hge hB hsv1
    go_upto_if 27 with (fail)
    go_cut [] from 27 to 30 (fun wx => MB wx B11 (mdl kd n rl [u4, u5, u6]) ∧ Below q0.heap.size q0 wx)
    case first =>
      rcases force with _ | _
      · obtain ⟨rfl, rfl, rfl, rfl, rfl⟩ := HFA.out rfl
        go_wp2_with (fail)
        go_meet
        exact ⟨mb_at (k := 4) HB0.out (mv_own (kind := 4) (l := [F 4 % 2 ^ n, F 5 % 2 ^ n, F 6 % 2 ^ n]) (by omega) HO1.out HO2.out HLEN.out (by simp) (n : Int)), HBC.out⟩
      · have hfd := fun q => (HFD.out rfl q).1
        have hk3 := (HFD.out rfl q1).2
        subst hk3
        have HC : Hid (Calls Tryd.prog 13 #[.int .u8 (s : Int), .agg #[.int .u8 (F 0 : Nat), .int .u8 (F 1 : Nat), .int .u8 (F 2 : Nat), .int .u8 (F 3 : Nat), .int .u8 (F 4 : Nat), .int .u8 (F 5 : Nat), .int .u8 (F 6 : Nat)]] q1 _) := Lib.hid (hfd q1)
        unfold RetMo at HC
        clear hfd
        have cc := HK.blk_cell HSV1.out
        have c0 := cc 0
        have c1 := cc 1
        have c2 := cc 2
        have c3 := cc 3
        have c4 := cc 4
        have c5 := cc 5
        have c6 := cc 6
        clear cc
        go_wp2_with (go_at_call 13; ((with_reducible refine HC.out.mono ?_); rintro e w' ⟨g, c, fg, fc, rfl, hB, ho1, ho2⟩); have hbk := blk_up9 hB HB0.out; have m0 := HK.blk_cell hbk; have d0 := m0 0; have d1 := m0 1; have d2 := m0 2; have d3 := m0 3; have d4 := m0 4; have d5 := m0 5; have d6 := m0 6; have cf := fun i => HK.blk_frozen hbk i; have HBK := Lib.hid hbk; have HB2 := Lib.hid hB; have HP1 := Lib.hid ho1; have HP2 := Lib.hid ho2; clear hbk m0 hB ho1 ho2)
        go_meet
        have hf7 := frm7 w' B11 (.int .u8 3) (.int .i64 (n : Int)) (.slice (some ⟨g, 0, none⟩) n c) (.int .i64 0) (.slice (some ⟨fg, 0, none⟩) 3 fc) (.slice none 0 0) (.slice none 0 0)
        refine ⟨mb_at (k := 3) (set7 HBK.out _ _ _ _ _ _ _) (mv_own (kind := 3) (l := [u4, u5, u6]) (by omega) (hf7.owns HP1.out (fun gg e e2 => owns_ne_type HP1.out HBK.out (by intro c h; injection h with _ h _; cases h) (e.trans (congrArg some e2)))) (hf7.owns HP2.out (fun gg e e2 => owns_ne_type HP2.out HBK.out (by intro c h; injection h with _ h _; cases h) (e.trans (congrArg some e2)))) HLEN.out (by simp) (n : Int)), (below_tr HBC.out HB2.out).trans (hf7.below (Nat.le_trans HBC.out.size HB2.out.size) (fun j hj => by have := HGE.out; omega))⟩
    case rest =>
      obtain ⟨hmb, hB⟩ := hcut
      have HM11 := Lib.hid hmb
      replace HRW := Lib.hid (HRW.out.below hB)
      replace HBL := Lib.hid (below_tr HBL.out hB)
      obtain ⟨q2, hq2⟩ : ∃ q : World, q = wc := ⟨_, rfl⟩
      subst hq2
      clear hmb hB HB0 HO1 HO2 HGE HBC HSV1 HFA HFB HFD
      obtain ⟨mk, mz, lp, r0, r1, r2, t0, t1, t2, u0, u1, u2, b0, b1, b2, hb, h2, h3, h5, h4⟩ := HM11.out
      have cc := HK.blk_cell hb
      have c0 := cc 0
      have c1 := cc 1
      have c2 := cc 2
      have c3 := cc 3
      have c4 := cc 4
      have c5 := cc 5
      have c6 := cc 6
      clear cc
      have e9 : mk = kd := h2.symm
      have e8 : mz = (n : Int) := h3.symm
      rw [e9, e8] at hb
      have HBM := Lib.hid hb
      have HK4 : Hid (∀ W, Below q2.heap.size q2 W → W.cell? ⟨B11, 0, none⟩ = some (.int .u8 (kd : Int))) := Lib.hid fun W h => HK.blk_cell (blk_up9 h HBM.out) 0
      have HK5 : Hid (∀ W, Below q2.heap.size q2 W → W.cell? ⟨B11, 1, none⟩ = some (.int .i64 (n : Int))) := Lib.hid fun W h => HK.blk_cell (blk_up9 h HBM.out) 1
      clear hb h2 h3 h4 h5 e9 e8 c0 c1 c2 c3 c4 c5 c6 HBM
      have HB1 : Hid (∀ W, Below q2.heap.size q2 W → _) := Lib.hid fun W h => HX.out W (below_tr HBL.out h)
      go_upto_region 6 with (fail)
      go_cut [12, 13] from 31 to 39 (fun u v wx => ∃ B, u = .pointer (some ⟨B, 0, none⟩) ∧ v = .int .i64 (wd : Int) ∧ FmB wx B ff ∧ Below q2.heap.size q2 wx)
      case first =>
        refine Go.RE.wp_region_eachg [31, 32, 33, 34, 35, 36, 37, 38, 39, 12, 13] (fun L x W => (Below q2.heap.size q2 W) ∧ (L 0 = true → x 31 = .pointer (some ⟨B11, 0, none⟩)) ∧ (L 1 = true → x 32 = .int .u8 (kd : Int)) ∧ (L 2 = true → x 33 = .slice x0 xn xc) ∧ (L 3 = true → FvN q2.heap.size (L 9) false (x 12) undef W (x 34) ff) ∧ (L 4 = true → x 35 = .int .u8 (wo : Int)) ∧ (L 5 = true → x 36 = .int .i64 (wo : Int)) ∧ (L 6 = true → x 37 = .pointer (some ⟨B11, 1, none⟩)) ∧ (L 7 = true → x 38 = .int .i64 (n : Int)) ∧ (L 8 = true → x 39 = .int .i64 (wd : Int)) ∧ (L 9 = true → BxN q2.heap.size false undef W (x 12)) ∧ (L 10 = true → L 9 = true ∧ FmN (L 9) false (x 12) undef q2.heap.size false undef W (x 12) ff) ∧ (L 11 = true → x 13 = .int .i64 (wd : Int))) (by kernel_rfl) (by kernel_rfl) (by kernel_rfl) ?_ ((Go.RE.Each.cons ?_ (Go.RE.Each.cons ?_ (Go.RE.Each.cons ?_ (Go.RE.Each.cons ?_ (Go.RE.Each.cons ?_ (Go.RE.Each.cons ?_ (Go.RE.Each.cons ?_ (Go.RE.Each.cons ?_ (Go.RE.Each.cons ?_ (Go.RE.Each.cons ?_ (Go.RE.Each.cons ?_ (Go.RE.Each.cons ?_ Go.RE.Each.nil))))))))))))) ?_
        · exact fun x => ⟨bl_dr (Below.refl _ _), fun h => (by cases h), fun h => (by cases h), fun h => (by cases h), fun h => (by cases h), fun h => (by cases h), fun h => (by cases h), fun h => (by cases h), fun h => (by cases h), fun h => (by cases h), fun h => (by cases h), fun h => (by cases h), fun h => (by cases h)⟩
        · intro L x a wR K hL hd hf hx hΦ hK
          obtain ⟨hI, f0, f1, f2, f3, f4, f5, f6, f7, f8, f9, f10, f11⟩ := hΦ
          refine ⟨fun _ => ?_, fun h => absurd h (by rw [Go.RE.wanted_none rfl]; decide)⟩
          have e11 : a.tmps[11]? = some (.pointer (some ⟨B11, 0, none⟩)) := hf 11 (of_decide_eq_true (by kernel_rfl))
          clear hf hx hd
          go_simp
          refine hK _ _ ?_
          exact ⟨hI, fun _ => rfl, fun h => f1 h, fun h => f2 h, fun h => f3 h, fun h => f4 h, fun h => f5 h, fun h => f6 h, fun h => f7 h, fun h => f8 h, fun h => f9 h, fun h => f10 h, fun h => f11 h⟩
        · intro L x a wR K hL hd hf hx hΦ hK
          obtain ⟨hI, f0, f1, f2, f3, f4, f5, f6, f7, f8, f9, f10, f11⟩ := hΦ
          refine ⟨fun _ => ?_, fun h => absurd h (by rw [Go.RE.wanted_none rfl]; decide)⟩
          have d0 := f0 (hd 0 (by kernel_rfl))
          have e31 : a.tmps[31]? = some (x 31) := hx 0 _ 31 rfl rfl (hd 0 (by kernel_rfl))
          rw [d0] at e31
          have c := HK4.out _ hI
          clear hf hx hd
          go_simp
          refine hK _ _ ?_
          exact ⟨hI, fun h => f0 h, fun _ => rfl, fun h => f2 h, fun h => f3 h, fun h => f4 h, fun h => f5 h, fun h => f6 h, fun h => f7 h, fun h => f8 h, fun h => f9 h, fun h => f10 h, fun h => f11 h⟩
        · intro L x a wR K hL hd hf hx hΦ hK
          obtain ⟨hI, f0, f1, f2, f3, f4, f5, f6, f7, f8, f9, f10, f11⟩ := hΦ
          refine ⟨fun _ => ?_, fun h => absurd h (by rw [Go.RE.wanted_none rfl]; decide)⟩
          have e3 : a.tmps[3]? = some (.slice x0 xn xc) := hf 3 (of_decide_eq_true (by kernel_rfl))
          clear hf hx hd
          go_simp
          refine hK _ _ ?_
          exact ⟨hI, fun h => f0 h, fun h => f1 h, fun _ => rfl, fun h => f3 h, fun h => f4 h, fun h => f5 h, fun h => f6 h, fun h => f7 h, fun h => f8 h, fun h => f9 h, fun h => f10 h, fun h => f11 h⟩
        · intro L x a wR K hL hd hf hx hΦ hK
          obtain ⟨hI, f0, f1, f2, f3, f4, f5, f6, f7, f8, f9, f10, f11⟩ := hΦ
          refine ⟨fun _ => ?_, fun h => absurd h (by rw [Go.RE.wanted_none rfl]; decide)⟩
          have d1 := f1 (hd 1 (by kernel_rfl))
          have e32 : a.tmps[32]? = some (x 32) := hx 1 _ 32 rfl rfl (hd 1 (by kernel_rfl))
          rw [d1] at e32
          have d2 := f2 (hd 2 (by kernel_rfl))
          have e33 : a.tmps[33]? = some (x 33) := hx 2 _ 33 rfl rfl (hd 2 (by kernel_rfl))
          rw [d2] at e33
          have hy9 := f9
          clear hf hx hd
          go_simp
          go_at_call 14
          with_reducible refine (HB1.out _ hI).mono ?_
          rintro e w' ⟨⟨a0, a1, a2⟩, ⟨s0, s1, s2⟩, rfl, hB8, hfm⟩
          refine hK _ _ ?_
          exact ⟨below_tr hI hB8, fun h => f0 h, fun h => f1 h, fun h => f2 h, fun _ => FvN.of_call f9 (fun h => by cases h) hB8.size hI.size hfm, fun h => f4 h, fun h => f5 h, fun h => f6 h, fun h => f7 h, fun h => f8 h, fun h => (f9 h).below hB8, fun h => ⟨(f10 h).1, (f10 h).2.below hB8⟩, fun h => f11 h⟩
        · intro L x a wR K hL hd hf hx hΦ hK
          obtain ⟨hI, f0, f1, f2, f3, f4, f5, f6, f7, f8, f9, f10, f11⟩ := hΦ
          refine ⟨fun _ => ?_, fun h => absurd h (by rw [Go.RE.wanted_none rfl]; decide)⟩
          have e4 : a.tmps[4]? = some (.int .u8 (wo : Int)) := hf 4 (of_decide_eq_true (by kernel_rfl))
          clear hf hx hd
          go_simp
          refine hK _ _ ?_
          exact ⟨hI, fun h => f0 h, fun h => f1 h, fun h => f2 h, fun h => f3 h, fun _ => rfl, fun h => f5 h, fun h => f6 h, fun h => f7 h, fun h => f8 h, fun h => f9 h, fun h => f10 h, fun h => f11 h⟩
        · intro L x a wR K hL hd hf hx hΦ hK
          obtain ⟨hI, f0, f1, f2, f3, f4, f5, f6, f7, f8, f9, f10, f11⟩ := hΦ
          refine ⟨fun _ => ?_, fun h => absurd h (by rw [Go.RE.wanted_none rfl]; decide)⟩
          have d4 := f4 (hd 4 (by kernel_rfl))
          have e35 : a.tmps[35]? = some (x 35) := hx 4 _ 35 rfl rfl (hd 4 (by kernel_rfl))
          rw [d4] at e35
          have hwr := HWO.out
          clear hf hx hd
          go_simp
          refine hK _ _ ?_
          exact ⟨hI, fun h => f0 h, fun h => f1 h, fun h => f2 h, fun h => f3 h, fun h => f4 h, fun _ => rfl, fun h => f6 h, fun h => f7 h, fun h => f8 h, fun h => f9 h, fun h => f10 h, fun h => f11 h⟩
        · intro L x a wR K hL hd hf hx hΦ hK
          obtain ⟨hI, f0, f1, f2, f3, f4, f5, f6, f7, f8, f9, f10, f11⟩ := hΦ
          refine ⟨fun _ => ?_, fun h => absurd h (by rw [Go.RE.wanted_none rfl]; decide)⟩
          have e11 : a.tmps[11]? = some (.pointer (some ⟨B11, 0, none⟩)) := hf 11 (of_decide_eq_true (by kernel_rfl))
          clear hf hx hd
          go_simp
          refine hK _ _ ?_
          exact ⟨hI, fun h => f0 h, fun h => f1 h, fun h => f2 h, fun h => f3 h, fun h => f4 h, fun h => f5 h, fun _ => rfl, fun h => f7 h, fun h => f8 h, fun h => f9 h, fun h => f10 h, fun h => f11 h⟩
        · intro L x a wR K hL hd hf hx hΦ hK
          obtain ⟨hI, f0, f1, f2, f3, f4, f5, f6, f7, f8, f9, f10, f11⟩ := hΦ
          refine ⟨fun _ => ?_, fun h => absurd h (by rw [Go.RE.wanted_none rfl]; decide)⟩
          have d6 := f6 (hd 6 (by kernel_rfl))
          have e37 : a.tmps[37]? = some (x 37) := hx 6 _ 37 rfl rfl (hd 6 (by kernel_rfl))
          rw [d6] at e37
          have c := HK5.out _ hI
          clear hf hx hd
          go_simp
          refine hK _ _ ?_
          exact ⟨hI, fun h => f0 h, fun h => f1 h, fun h => f2 h, fun h => f3 h, fun h => f4 h, fun h => f5 h, fun h => f6 h, fun _ => rfl, fun h => f8 h, fun h => f9 h, fun h => f10 h, fun h => f11 h⟩
        · intro L x a wR K hL hd hf hx hΦ hK
          obtain ⟨hI, f0, f1, f2, f3, f4, f5, f6, f7, f8, f9, f10, f11⟩ := hΦ
          refine ⟨fun _ => ?_, fun h => absurd h (by rw [Go.RE.wanted_none rfl]; decide)⟩
          have d5 := f5 (hd 5 (by kernel_rfl))
          have e36 : a.tmps[36]? = some (x 36) := hx 5 _ 36 rfl rfl (hd 5 (by kernel_rfl))
          rw [d5] at e36
          have d7 := f7 (hd 7 (by kernel_rfl))
          have e38 : a.tmps[38]? = some (x 38) := hx 7 _ 38 rfl rfl (hd 7 (by kernel_rfl))
          rw [d7] at e38
          have hm1 := HMD.out.1
          have hm2 := HMD.out.2
          have hzp := HZP.out
          clear hf hx hd
          go_simp
          refine hK _ _ ?_
          exact ⟨hI, fun h => f0 h, fun h => f1 h, fun h => f2 h, fun h => f3 h, fun h => f4 h, fun h => f5 h, fun h => f6 h, fun h => f7 h, fun _ => rfl, fun h => f9 h, fun h => f10 h, fun h => f11 h⟩
        · intro L x a wR K hL hd hf hx hΦ hK
          obtain ⟨hI, f0, f1, f2, f3, f4, f5, f6, f7, f8, f9, f10, f11⟩ := hΦ
          refine ⟨fun _ => ?_, fun h => absurd h (by rw [Go.RE.wanted_none rfl]; decide)⟩
          clear hf hx hd
          go_simp
          refine hK _ _ ?_
          exact ⟨below_tr hI (below_alloc _ _), fun h => f0 h, fun h => f1 h, fun h => f2 h, fun h => (f3 h).al1 _, fun h => f4 h, fun h => f5 h, fun h => f6 h, fun h => f7 h, fun h => f8 h, fun _ => BxN.fresh hI.size (fun h => by cases h), fun h => by have hh := f10 h; simp [hL] at hh, fun h => f11 h⟩
        · intro L x a wR K hL hd hf hx hΦ hK
          obtain ⟨hI, f0, f1, f2, f3, f4, f5, f6, f7, f8, f9, f10, f11⟩ := hΦ
          refine ⟨fun _ => ?_, fun h => absurd h (by rw [Go.RE.wanted_none rfl]; decide)⟩
          have d9 := f9 (hd 9 (by kernel_rfl))
          have e12 : a.tmps[12]? = some (x 12) := hx 9 _ 12 rfl rfl (hd 9 (by kernel_rfl))
          have d3 := f3 (hd 3 (by kernel_rfl))
          have e34 : a.tmps[34]? = some (x 34) := hx 3 _ 34 rfl rfl (hd 3 (by kernel_rfl))
          have r9 := hd 9 (by kernel_rfl)
          clear hf hx hd
          obtain ⟨B, k0, k1, k2, k3, hp, hbk, hm, hne⟩ := d9
          obtain ⟨o, nm, a0, a1, a2, s0, s1, s2, hv, ho, hn, hfm⟩ := d3
          rw [hp] at e12
          rw [hv] at e34
          have c := HK.blk_cell hbk
          have k0 := c 0
          have k1 := c 1
          have k2 := c 2
          have k3 := c 3
          clear c
          have cf := fun i => HK.blk_frozen hbk i
          simp only [ptr0] at e12
          go_simp
          refine hK undef _ ?_
          exact ⟨below4 hI hm _ _ _ _, fun h => f0 h, fun h => f1 h, fun h => f2 h, fun h => (f3 h).set (.inl ⟨r9, hp⟩) _ _ _ _, fun h => f4 h, fun h => f5 h, fun h => f6 h, fun h => f7 h, fun h => f8 h, fun h => (f9 h).own hp hbk _ _ _ _, fun _ => ⟨r9, ⟨B, o, nm, a0, a1, a2, s0, s1, s2, hp, set4 hbk _ _ _ _, hm, hne, ho, hn, nob_set (.inl ⟨r9, hp⟩) hfm _ _ _ _⟩⟩, fun h => f11 h⟩
        · intro L x a wR K hL hd hf hx hΦ hK
          obtain ⟨hI, f0, f1, f2, f3, f4, f5, f6, f7, f8, f9, f10, f11⟩ := hΦ
          refine ⟨fun _ => ?_, fun h => absurd h (by rw [Go.RE.wanted_none rfl]; decide)⟩
          have d8 := f8 (hd 8 (by kernel_rfl))
          have e39 : a.tmps[39]? = some (x 39) := hx 8 _ 39 rfl rfl (hd 8 (by kernel_rfl))
          rw [d8] at e39
          clear hf hx hd
          go_simp
          refine hK _ _ ?_
          exact ⟨hI, fun h => f0 h, fun h => f1 h, fun h => f2 h, fun h => f3 h, fun h => f4 h, fun h => f5 h, fun h => f6 h, fun h => f7 h, fun h => f8 h, fun h => f9 h, fun h => f10 h, fun _ => rfl⟩
        · rintro x W ⟨hI, f0, f1, f2, f3, f4, f5, f6, f7, f8, f9, f10, f11⟩
          obtain ⟨E1, e1, b1⟩ := (f10 rfl).2.box
          simp only [Exit.then]
          go_step
          go_meet
          exact ⟨E1, e1, f11 rfl, b1, hI⟩
      case rest =>
        obtain ⟨B12, rfl, rfl, hn1, hB⟩ := hcut
        have HF12 := Lib.hid hn1
        replace HM11 := Lib.hid (HM11.out.below hB)
        replace HRW := Lib.hid (HRW.out.below hB)
        replace HBL := Lib.hid (below_tr HBL.out hB)
        obtain ⟨q3, hq3⟩ : ∃ q : World, q = wc := ⟨_, rfl⟩
        subst hq3
        clear hn1 hB HK4 HK5 HB1
        go_upto_region 7 with (fail)
        go_cut [14, 15] from 40 to 45 (fun v14 v15 wx => v14 = .int .i64 (va : Int) ∧ v15 = .int .i64 0 ∧ Below q3.heap.size q3 wx)
        case first =>
          obtain ⟨o, nm, a0, a1, a2, s0, s1, s2, hb, h2, h3, h4⟩ := HF12.out
          have cc := HK.blk_cell hb
          have c0 := cc 0
          have c1 := cc 1
          have c2 := cc 2
          have c3 := cc 3
          clear cc
          obtain ⟨mk', mz', lp', r0', r1', r2', t0', t1', t2', u0', u1', u2', b0', b1', b2', hb', h2', h3', h5', h4'⟩ := HM11.out
          have cc' := HK.blk_cell hb'
          have c0' := cc' 0
          have c1' := cc' 1
          have c2' := cc' 2
          have c3' := cc' 3
          have c4' := cc' 4
          have c5' := cc' 5
          have c6' := cc' 6
          clear cc'
          have hc := at_valv (W := q3) ⟨mk', mz', lp', r0', r1', r2', t0', t1', t2', u0', u1', u2', b0', b1', b2', rfl, h2', h3', h5', h4'⟩ ⟨o, nm, a0, a1, a2, s0, s1, s2, rfl, h2, h3, h4⟩ HRW.out HA1.out.1 HMO.out HA1.out.2.1 HA1.out.2.2.1 HA1.out.2.2.2
          have HC : Hid (Calls Tryd.prog 16 _ _ fun e w' => e = .returned (.tuple #[.int .i64 (va : Int), .int .i64 0]) ∧ _) := Lib.hid hc
          clear hc h2 h3 h4 h2' h3' h4' h5' hb hb'
          go_wp2_with (go_at_call 16; ((with_reducible refine HC.out.mono ?_); rintro e w' ⟨rfl, hB⟩))
          go_meet
          exact ⟨rfl, rfl, hB⟩
        case rest =>
          obtain ⟨rfl, rfl, hB⟩ := hcut
          replace HM11 := Lib.hid (HM11.out.below hB)
          replace HF12 := Lib.hid (HF12.out.below hB)
          replace HRW := Lib.hid (HRW.out.below hB)
          replace HBL := Lib.hid (below_tr HBL.out hB)
          obtain ⟨q4, hq4⟩ : ∃ q : World, q = wc := ⟨_, rfl⟩
          subst hq4
          clear hB
          go_upto_region 8 with (fail)
          go_cut [16, 17] from 46 to 51 (fun v16 v17 wx => ∃ B, v16 = .pointer (some ⟨B, 0, none⟩) ∧ v17 = .int .i64 0 ∧ MB wx B (mdl kd k pl [p4, p5, p6]) ∧ Below q4.heap.size q4 wx)
          case first =>
            obtain ⟨mk, mz, lp, r0, r1, r2, t0, t1, t2, u0, u1, u2, b0, b1, b2, hb, h2, h3, h5, h4⟩ := HM11.out
            have cc := HK.blk_cell hb
            have c0 := cc 0
            have c1 := cc 1
            have c2 := cc 2
            have c3 := cc 3
            have c4 := cc 4
            have c5 := cc 5
            have c6 := cc 6
            clear cc
            have hc := HPA.out q4 _ ⟨mk, mz, lp, r0, r1, r2, t0, t1, t2, u0, u1, u2, b0, b1, b2, rfl, h2, h3, h5, h4⟩
            have HC := Lib.hid hc
            unfold RetPv at HC
            clear hc h2 h3 h4 h5 hb
            go_wp2_with (go_at_call 30; ((with_reducible refine HC.out.mono ?_); rintro e w' ⟨k9, z9, l9, y0, y1, y2, y3, y4, y5, y6, y7, y8, y9, y10, y11, rfl, hmv, hB⟩))
            go_meet
            exact ⟨_, rfl, rfl, box_m hmv, below_tr hB (below_alloc _ _)⟩
          case rest =>
            obtain ⟨B16, rfl, rfl, hnew, hB⟩ := hcut
            replace HM11 := Lib.hid (HM11.out.below hB)
            replace HF12 := Lib.hid (HF12.out.below hB)
            replace HRW := Lib.hid (HRW.out.below hB)
            replace HBL := Lib.hid (below_tr HBL.out hB)
            obtain ⟨q5, hq5⟩ : ∃ q : World, q = wc := ⟨_, rfl⟩
            subst hq5
            have HM16 := Lib.hid hnew
            clear hnew hB
            go_upto_region 9 with (fail)
            go_cut [18, 19] from 52 to 57 (fun v18 v19 wx => v18 = .bool vi ∧ v19 = .int .i64 0 ∧ Below q5.heap.size q5 wx)
            case first =>
              obtain ⟨o, nm, a0, a1, a2, s0, s1, s2, hb, h2, h3, h4⟩ := HF12.out
              have cc := HK.blk_cell hb
              have c0 := cc 0
              have c1 := cc 1
              have c2 := cc 2
              have c3 := cc 3
              clear cc
              obtain ⟨mk', mz', lp', r0', r1', r2', t0', t1', t2', u0', u1', u2', b0', b1', b2', hb', h2', h3', h5', h4'⟩ := HM16.out
              have cc' := HK.blk_cell hb'
              have c0' := cc' 0
              have c1' := cc' 1
              have c2' := cc' 2
              have c3' := cc' 3
              have c4' := cc' 4
              have c5' := cc' 5
              have c6' := cc' 6
              clear cc'
              have hc := holds_valv (W := q5) ⟨mk', mz', lp', r0', r1', r2', t0', t1', t2', u0', u1', u2', b0', b1', b2', rfl, h2', h3', h5', h4'⟩ ⟨o, nm, a0, a1, a2, s0, s1, s2, rfl, h2, h3, h4⟩ HRW.out HA2.out.1 HPO.out HA2.out.2.1 HA2.out.2.2.1 HA2.out.2.2.2
              have HC : Hid (Calls Tryd.prog 17 _ _ fun e w' => e = .returned (.tuple #[.bool vi, .int .i64 0]) ∧ _) := Lib.hid hc
              clear hc h2 h3 h4 h2' h3' h4' h5' hb hb'
              go_wp2_with (go_at_call 17; ((with_reducible refine HC.out.mono ?_); rintro e w' ⟨rfl, hB⟩))
              go_meet
              exact ⟨rfl, rfl, hB⟩
            case rest =>
              obtain ⟨rfl, rfl, hB⟩ := hcut
              replace HM11 := Lib.hid (HM11.out.below hB)
              replace HF12 := Lib.hid (HF12.out.below hB)
              replace HM16 := Lib.hid (HM16.out.below hB)
              replace HRW := Lib.hid (HRW.out.below hB)
              replace HBL := Lib.hid (below_tr HBL.out hB)
              obtain ⟨q6, hq6⟩ : ∃ q : World, q = wc := ⟨_, rfl⟩
              subst hq6
              clear hB
              go_upto_region 10 with (fail)
              go_cut [20, 21] from 58 to 62 (fun v20 v21 wx => ∃ B, v20 = .pointer (some ⟨B, 0, none⟩) ∧ v21 = .int .i64 0 ∧ MB wx B (mdl kd k pl [p4, p5, p6]) ∧ Below q6.heap.size q6 wx)
              case first =>
                obtain ⟨mk, mz, lp, r0, r1, r2, t0, t1, t2, u0, u1, u2, b0, b1, b2, hb, h2, h3, h5, h4⟩ := HM16.out
                have cc := HK.blk_cell hb
                have c0 := cc 0
                have c1 := cc 1
                have c2 := cc 2
                have c3 := cc 3
                have c4 := cc 4
                have c5 := cc 5
                have c6 := cc 6
                clear cc
                have hc := HPB.out q6 _ ⟨mk, mz, lp, r0, r1, r2, t0, t1, t2, u0, u1, u2, b0, b1, b2, rfl, h2, h3, h5, h4⟩
                have HC := Lib.hid hc
                unfold RetPv at HC
                clear hc h2 h3 h4 h5 hb
                go_wp2_with (go_at_call 30; ((with_reducible refine HC.out.mono ?_); rintro e w' ⟨k9, z9, l9, y0, y1, y2, y3, y4, y5, y6, y7, y8, y9, y10, y11, rfl, hmv, hB⟩))
                go_meet
                exact ⟨_, rfl, rfl, box_m hmv, below_tr hB (below_alloc _ _)⟩
              case rest =>
                obtain ⟨B20, rfl, rfl, hnew, hB⟩ := hcut
                replace HM11 := Lib.hid (HM11.out.below hB)
                replace HF12 := Lib.hid (HF12.out.below hB)
                replace HM16 := Lib.hid (HM16.out.below hB)
                replace HRW := Lib.hid (HRW.out.below hB)
                replace HBL := Lib.hid (below_tr HBL.out hB)
                obtain ⟨q7, hq7⟩ : ∃ q : World, q = wc := ⟨_, rfl⟩
                subst hq7
                have HM20 := Lib.hid hnew
                clear hnew hB
                go_upto_region 11 with (fail)
                obtain ⟨mk, mz, lp, r0, r1, r2, t0, t1, t2, u0, u1, u2, b0, b1, b2, hb, h2, h3, h5, h4⟩ := HM16.out
                have cc := HK.blk_cell hb
                have c0 := cc 0
                have c1 := cc 1
                have c2 := cc 2
                have c3 := cc 3
                have c4 := cc 4
                have c5 := cc 5
                have c6 := cc 6
                clear cc
                obtain ⟨mk', mz', lp', r0', r1', r2', t0', t1', t2', u0', u1', u2', b0', b1', b2', hb', h2', h3', h5', h4'⟩ := HM20.out
                have cc' := HK.blk_cell hb'
                have c0' := cc' 0
                have c1' := cc' 1
                have c2' := cc' 2
                have c3' := cc' 3
                have c4' := cc' 4
                have c5' := cc' 5
                have c6' := cc' 6
                clear cc'
                obtain ⟨mk'', mz'', lp'', r0'', r1'', r2'', t0'', t1'', t2'', u0'', u1'', u2'', b0'', b1'', b2'', hb'', h2'', h3'', h5'', h4''⟩ := HM11.out
                have cc'' := HK.blk_cell hb''
                have c0'' := cc'' 0
                have c1'' := cc'' 1
                have c2'' := cc'' 2
                have c3'' := cc'' 3
                have c4'' := cc'' 4
                have c5'' := cc'' 5
                have c6'' := cc'' 6
                clear cc''
                have hmv : IsMv q7 (.agg #[.int .u8 (mk : Int), .int .i64 mz, .slice r0 r1 r2, .int .i64 lp, .slice t0 t1 t2, .slice u0 u1 u2, .slice b0 b1 b2]) (mdl kd k pl [p4, p5, p6]) := ⟨mk, mz, lp, r0, r1, r2, t0, t1, t2, u0, u1, u2, b0, b1, b2, rfl, h2, h3, h5, h4⟩
                have hmv' : IsMv q7 (.agg #[.int .u8 (mk' : Int), .int .i64 mz', .slice r0' r1' r2', .int .i64 lp', .slice t0' t1' t2', .slice u0' u1' u2', .slice b0' b1' b2']) (mdl kd k pl [p4, p5, p6]) := ⟨mk', mz', lp', r0', r1', r2', t0', t1', t2', u0', u1', u2', b0', b1', b2', rfl, h2', h3', h5', h4'⟩
                have hv18 := validMv hmv
                rw [HPO.out] at hv18
                unfold RetW at hv18
                have HV18 := Lib.hid hv18
                have HMV := Lib.hid hmv
                have HMV' := Lib.hid hmv'
                have HBK := Lib.hid hb
                have HBK' := Lib.hid hb'
                have HBK'' := Lib.hid hb''
                have e1 : mz = (k : Int) := h3.symm
                have e2 : mz'' = (n : Int) := h3''.symm
                have HE : Hid (mz ≤ mz'') := Lib.hid (by have := HKN.out; omega)
                have b0 : (0 : Int) ≤ (wd : Int) := by omega
                have hmin := HMW.out
                have f1 : bits .and .i64 ((va : Int) / 2 ^ wd) 1 = if vi = true then 1 else 0 := by
                  have h := HVI.out
                  have h2 := HVA.out
                  rw [h]
                  rcases e : va.testBit wd with _ | _
                  · rw [bit0 (by omega) e]; rfl
                  · rw [bit1 (by omega) e]; rfl
                clear e1 e2 h2 h3 h4 h5 h2' h3' h4' h5' h2'' h3'' h4'' h5'' hmv hmv' hv18 hb hb' hb'' c0' c1' c2' c3' c4' c5' c6' c0'' c1'' c2'' c3'' c4'' c5'' c6''
                rcases vi with _ | _
                · simp only [Bool.false_eq_true, if_false] at f1
                  go_wp2_with (first
                                 | (go_at_call 18; ((with_reducible refine HV18.out.mono ?_); rintro e w1 ⟨rfl, hB1⟩)
                                    have HB1 := Lib.hid hB1
                                    have hk := blk_up9 hB1 HBK.out
                                    have hk' := blk_up9 hB1 HBK'.out
                                    have HS := Lib.hid (sameModel_yes w1 _ _ _ (HMV.out.below hB1) (HMV'.out.below hB1) rfl rfl (show (pl.map fun x : Nat => (x : Int)).length ≤ 1000000000 by rw [List.length_map]; have := HLP.out; omega))
                                    unfold RetW at HS
                                    have HK1 := Lib.hid hk
                                    have HK2 := Lib.hid (blk_up9 hB1 HBK''.out)
                                    have m0 := HK.blk_cell hk
                                    have n0 := HK.blk_cell hk'
                                    have d0 := m0 0
                                    have d1 := m0 1
                                    have d2 := m0 2
                                    have d3 := m0 3
                                    have d4 := m0 4
                                    have d5 := m0 5
                                    have d6 := m0 6
                                    have n1 := n0 0
                                    have n2 := n0 1
                                    have n3 := n0 2
                                    have n4 := n0 3
                                    have n5 := n0 4
                                    have n6 := n0 5
                                    have n7 := n0 6
                                    clear m0 n0 hk hk' hB1)
                                 | (go_at_call 31; ((with_reducible refine HS.out.mono ?_); rintro e w2 ⟨rfl, hB2⟩)
                                    have HB2 := Lib.hid (below_tr HB1.out hB2)
                                    have k1 := HK.blk_cell (blk_up9 hB2 HK1.out) 1
                                    have k2 := HK.blk_cell (blk_up9 hB2 HK2.out) 1
                                    have hle := HE.out
                                    clear hB2))
                  go_ret
                  exact ⟨rfl, below_tr HBL.out HB2.out⟩
                · simp only [if_true] at f1
                  go_wp2_with (first
                                 | (go_at_call 18; ((with_reducible refine HV18.out.mono ?_); rintro e w1 ⟨rfl, hB1⟩)
                                    have HB1 := Lib.hid hB1
                                    have hk := blk_up9 hB1 HBK.out
                                    have hk' := blk_up9 hB1 HBK'.out
                                    have HS := Lib.hid (sameModel_yes w1 _ _ _ (HMV.out.below hB1) (HMV'.out.below hB1) rfl rfl (show (pl.map fun x : Nat => (x : Int)).length ≤ 1000000000 by rw [List.length_map]; have := HLP.out; omega))
                                    unfold RetW at HS
                                    have HK1 := Lib.hid hk
                                    have HK2 := Lib.hid (blk_up9 hB1 HBK''.out)
                                    have m0 := HK.blk_cell hk
                                    have n0 := HK.blk_cell hk'
                                    have d0 := m0 0
                                    have d1 := m0 1
                                    have d2 := m0 2
                                    have d3 := m0 3
                                    have d4 := m0 4
                                    have d5 := m0 5
                                    have d6 := m0 6
                                    have n1 := n0 0
                                    have n2 := n0 1
                                    have n3 := n0 2
                                    have n4 := n0 3
                                    have n5 := n0 4
                                    have n6 := n0 5
                                    have n7 := n0 6
                                    clear m0 n0 hk hk' hB1)
                                 | (go_at_call 31; ((with_reducible refine HS.out.mono ?_); rintro e w2 ⟨rfl, hB2⟩)
                                    have HB2 := Lib.hid (below_tr HB1.out hB2)
                                    have k1 := HK.blk_cell (blk_up9 hB2 HK1.out) 1
                                    have k2 := HK.blk_cell (blk_up9 hB2 HK2.out) 1
                                    have hle := HE.out
                                    clear hB2))
                  go_ret
                  exact ⟨rfl, below_tr HBL.out HB2.out⟩
end Go.Proofs.YtflmllablfjfeaaDoor
