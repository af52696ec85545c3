/- Frame: the walk of FramePersists (3). frpe.py prints this text. -/
import Derived.Test.YtflmllablfjfeaaDoorPli
namespace Go.Proofs.YtflmllablfjfeaaDoor
open Go.RowKit Go.HK Go.FR
set_option linter.unusedVariables false
set_option linter.unusedSimpArgs false
set_option linter.unusedSectionVars false
set_option maxRecDepth 100000 in
set_option maxHeartbeats 16000000 in
theorem persists_walk (w : World) (s : Nat) (F : Nat → Nat) (a0 : Option Addr) (ln lc : Nat) (l : List Nat) (hrw : IsRows w) (hs : s < 256) (hF : ∀ i, F i < 256) (hl : l.length = ln) (hl2 : ln ≤ 9223372036854775807) (hby : IsBy w a0 l) :
  Calls Tryd.prog 3 #[.int .u8 (s : Int), .agg (sevenV F), .slice a0 ln lc] w (RetW w true) := by
 obtain ⟨n, hn⟩ : ∃ n, n = 1 + s % 4 := ⟨_, rfl⟩
 have h1 : 1 ≤ n := by omega
 have h4 : n ≤ 4 := by omega
 obtain ⟨rl, hrl⟩ : ∃ rl, rl = fRel n F n := ⟨_, rfl⟩
 obtain ⟨u4, hu4⟩ : ∃ u, u = upK rl (F 4) n := ⟨_, rfl⟩
 obtain ⟨u5, hu5⟩ : ∃ u, u = upK rl (F 5) n := ⟨_, rfl⟩
 obtain ⟨u6, hu6⟩ : ∃ u, u = upK rl (F 6) n := ⟨_, rfl⟩
 obtain ⟨ff, hff⟩ : ∃ ff, ff = builtF false l := ⟨_, rfl⟩
 have hfo := forced_forc n h1 h4 F
 rw [← hrl] at hfo
 have hlen : rl.length = n := by rw [hrl]; exact fRel_len n F n
 have hu : ∀ m, m = u4 ∨ m = u5 ∨ m = u6 → m < 2 ^ rl.length ∧ UpM rl m := fun m hm => by
  rcases hm with rfl | rfl | rfl
  ·rw [hu4]; exact ⟨upK_lt hfo.1.ok _ _, upK_up hfo.1 _ _⟩
  ·rw [hu5]; exact ⟨upK_lt hfo.1.ok _ _, upK_up hfo.1 _ _⟩
  ·rw [hu6]; exact ⟨upK_lt hfo.1.ok _ _, upK_up hfo.1 _ _⟩
 have hmok : (mdl 3 n rl [u4, u5, u6]).ok = true := mdl_ok (.inl rfl) hfo.1.ok hlen h1 (by rw [hrl]; exact forced_suits n h1 h4 F) fun m hm => ⟨(hu m hm).1, fun _ => persK_of hfo.1.ok (Nat.lt_of_lt_of_le (hu m hm).1 (pow_le4 (by omega))) (hu m hm).2 _⟩
 have hlk : LookOk rl.length (look3 u4 u5 u6) := look3_all (R := fun m => m < 2 ^ rl.length) (hu _ (.inl rfl)).1 (hu _ (.inr (.inl rfl))).1 (hu _ (.inr (.inr rfl))).1
 have hup : LookUp rl (look3 u4 u5 u6) := look3_all (R := fun m => UpM rl m) (hu _ (.inl rfl)).2 (hu _ (.inr (.inl rfl))).2 (hu _ (.inr (.inr rfl))).2
 have hpln := built_pln false l
 rw [← hff] at hpln
 have hop := ops_pln ff hpln.1
 obtain ⟨va, hva⟩ : ∃ va, va = semF true rl (look3 u4 u5 u6) ff := ⟨_, rfl⟩
 obtain ⟨vb, hvb⟩ : ∃ vb, vb = semF true rl (look3 u4 u5 u6) (Op1 3 ff) := ⟨_, rfl⟩
 obtain ⟨vi, hvi⟩ : ∃ vi, vi = va.testBit 0 := ⟨_, rfl⟩
 have p1 := persists_and hfo.1 hlk hup ff hop
 have p2 := persists_three hfo.1 hlk hup ff hop
 have p3 := persists_all hfo.1 hlk hup ff hop (by omega) (by rw [hlen]; exact hfo.2)
 have p4 := fun k => persists_up hfo.1 hlk hup ff hop (w := k)
 have p5 := fun k (hk : k < rl.length) => not_bit hfo.1 hlk ff hk
 have hv16 : va < 16 ∧ vb < 16 := ⟨by rw [hva]; exact semF_16 hfo.1.ok hlk _, by rw [hvb]; exact semF_16 hfo.1.ok hlk _⟩
 rw [← hva] at p1 p3 p4 p5
 rw [← hvb] at p1 p2 p5
 have n1 := pln_one (modal := false) (op := 3) (.inl rfl) hpln.1
 have n3 := pln_one (modal := false) (op := 3) (.inl rfl) (pln_one (modal := false) (op := 3) (.inl rfl) n1)
 have HA1 : Hid (AtIs (mdl 3 n rl [u4, u5, u6]) ff va) := Lib.hid (pln_at (modal := false) (fun h => by cases h) hpln.1 (by omega) (by omega) hva.symm)
 have HA2 : Hid (AtIs (mdl 3 n rl [u4, u5, u6]) (.mk 3 ⟨#[]⟩ [] [ff]) vb) := Lib.hid (pln_at (modal := false) (f := Op1 3 ff) (fun h => by cases h) n1 (by rw [depth_one]; omega) (by rw [nodes_one]; omega) hvb.symm)
 have HA3 : Hid (AtIs (mdl 3 n rl [u4, u5, u6]) (.mk 3 ⟨#[]⟩ [] [.mk 3 ⟨#[]⟩ [] [.mk 3 ⟨#[]⟩ [] [ff]]]) vb) := Lib.hid (pln_at (modal := false) (f := Op1 3 (Op1 3 (Op1 3 ff))) (fun h => by cases h) n3 (by rw [depth_one, depth_one, depth_one]; omega) (by rw [nodes_one, nodes_one, nodes_one]; omega) p2)
 have HA4 : Hid (HoIs (mdl 3 n rl [u4, u5, u6]) ff vi) := Lib.hid (pln_ho (modal := false) (fun h => by cases h) hpln.1 (by omega) (by omega) (by rw [hvi, hva]; rfl))
 have HMO := Lib.hid hmok
 have HLEN := Lib.hid hlen
 have HFR : Hid (RetMo = RetMo) := Lib.hid rfl
 have HP1 := Lib.hid p1
 have HP3 := Lib.hid p3
 have HP4 := Lib.hid p4
 have HP5 := Lib.hid p5
 have HVI := Lib.hid hvi
 have HV16 := Lib.hid hv16
 have HFO := Lib.hid hfo
 have HS := Lib.hid hs
 have HF := Lib.hid hF
 have HL := Lib.hid hl
 have HL2 := Lib.hid hl2
 have HBY := Lib.hid hby
 have HFF := Lib.hid hff
 have HFD : Hid (∀ q, Calls Tryd.prog 13 #[.int .u8 (s : Int), .agg (sevenV F)] q (RetMo q 3 n rl [u4, u5, u6])) := Lib.hid fun q => by
  have := forced_call q s F hs hF
  rw [← hn, ← hrl, ← hu4, ← hu5, ← hu6] at this
  exact this
 have hw1 : ∀ o, Below w.heap.size w (w.alloc o) := fun o => below_alloc w o
 have HAW : Hid (∀ o, Calls Tryd.prog 12 #[] (w.alloc o) (RetW (w.alloc o) true)) := Lib.hid fun o => awake_call (w.alloc o) (hrw.below (hw1 o))
 unfold RetW at HAW
 have HRW0 := Lib.hid hrw
 clear hn hrl hu4 hu5 hu6 hff hfo hlen hu hmok hlk hup hpln hop hva hvb hvi p1 p2 p3 p4 p5 hv16 n1 n3 hs hF hl hl2 hby hw1 hrw
 show Calls Tryd.prog 3 #[.int .u8 (s : Int), .agg #[.int .u8 (F 0 : Nat), .int .u8 (F 1 : Nat), .int .u8 (F 2 : Nat), .int .u8 (F 3 : Nat), .int .u8 (F 4 : Nat), .int .u8 (F 5 : Nat), .int .u8 (F 6 : Nat)], .slice a0 ln lc] w _
 go_enter Tryd.func3, Tryd.ntmps3
 go_upto_region 3 with (go_at_call 12; ((with_reducible refine (HAW.out _).mono ?_); rintro e q0 ⟨rfl, hB⟩))
 have hsv := (hB.block w.heap.size (by simp)).trans (HK.blk_new w _)
 have HSV := Lib.hid hsv
 have HBL := Lib.hid (below_tr (below_alloc w _) hB)
 have HRW := Lib.hid (HRW0.out.below HBL.out)
 clear hsv hB
 go_cut [7] from 21 to 23 (fun v7 wx => ∃ B, v7 = .pointer (some ⟨B, 0, none⟩) ∧ MB wx B (mdl 3 n rl [u4, u5, u6]) ∧ Below q0.heap.size q0 wx)
 case first =>
  have cc := HK.blk_cell HSV.out
  have c0 := cc 0
  have c1 := cc 1
  have c2 := cc 2
  have c3 := cc 3
  have c4 := cc 4
  have c5 := cc 5
  have c6 := cc 6
  clear cc
  have HC : Hid (Calls Tryd.prog 13 #[.int .u8 (s : Int), .agg #[.int .u8 (F 0 : Nat), .int .u8 (F 1 : Nat), .int .u8 (F 2 : Nat), .int .u8 (F 3 : Nat), .int .u8 (F 4 : Nat), .int .u8 (F 5 : Nat), .int .u8 (F 6 : Nat)]] q0 _) := Lib.hid (HFD.out q0)
  unfold RetMo at HC
  go_wp2_with (go_at_call 13; ((with_reducible refine HC.out.mono ?_); rintro e w' ⟨g, c, fg, fc, rfl, hB, ho1, ho2⟩))
  go_meet
  have hmv := mv_own (kind := 3) (by omega) ho1 ho2 HLEN.out (by simp) (n : Int)
  exact ⟨_, rfl, box_m hmv, below_tr hB (below_alloc _ _)⟩
 case rest =>
  obtain ⟨B7, rfl, hnew, hB⟩ := hcut
  have HM7 := Lib.hid hnew
  replace HRW := Lib.hid (HRW.out.below hB)
  replace HBL := Lib.hid (below_tr HBL.out hB)
  obtain ⟨q1, hq1⟩ : ∃ q : World, q = wc := ⟨_, rfl⟩
  subst hq1
  clear hnew hB
  go_upto_region 4 with (fail)
  go_cut [8] from 24 to 27 (fun v8 wx => ∃ B, v8 = .pointer (some ⟨B, 0, none⟩) ∧ FmB wx B (ff) ∧ Below q1.heap.size q1 wx)
  case first =>
   obtain ⟨mk, mz, lp, r0, r1, r2, t0, t1, t2, u0, u1, u2, b0, b1, b2, hb, h2, h3, h5, h4⟩ := HM7.out
   have cc := HK.blk_cell hb
   have c0 := cc 0
   have c1 := cc 1
   have c2 := cc 2
   have c3 := cc 3
   have c4 := cc 4
   have c5 := cc 5
   have c6 := cc 6
   clear cc
   obtain rfl : mk = 3 := h2.symm
   simp only [show ((3 : Nat) : Int) = 3 from rfl] at c0
   have HC : Hid (Calls Tryd.prog 14 #[.int .u8 3, .slice a0 ln lc] q1 (RetFm q1 ff)) := Lib.hid (by rw [HFF.out]; exact built_call q1 3 a0 ln lc l (by omega) HL.out HL2.out (HBY.out.below HBL.out))
   unfold RetFm at HC
   clear hb h2 h3 h4 h5
   go_wp2_with (go_at_call 14; ((with_reducible refine HC.out.mono ?_); rintro e w' ⟨⟨a0, a1, a2⟩, ⟨s0, s1, s2⟩, rfl, hB, hfm⟩; obtain ⟨o, ho⟩ : ∃ o, o = Fm.op (ff) := ⟨_, rfl⟩; obtain ⟨nm, hnm⟩ : ∃ nm, nm = Fm.name (ff) := ⟨_, rfl⟩; have HFVV : Hid (IsFv w' (.agg #[.int .u8 (o : Int), .string nm, .slice a0 a1 a2, .slice s0 s1 s2]) (ff)) := Lib.hid (by rw [ho, hnm]; exact of_fv hfm); simp only [fv, SL.v]; rw [← ho, ← hnm]; clear ho hnm hfm))
   go_meet
   exact ⟨_, rfl, box_f HFVV.out, below_tr hB (below_alloc _ _)⟩
  case rest =>
   obtain ⟨B8, rfl, hnew, hB⟩ := hcut
   replace HM7 := Lib.hid (HM7.out.below hB)
   have HF8 := Lib.hid hnew
   replace HRW := Lib.hid (HRW.out.below hB)
   replace HBL := Lib.hid (below_tr HBL.out hB)
   obtain ⟨q2, hq2⟩ : ∃ q : World, q = wc := ⟨_, rfl⟩
   subst hq2
   clear hnew hB
   go_upto_region 5 with (fail)
   go_cut [9] from 28 to 30 (fun v9 wx => ∃ B, v9 = .pointer (some ⟨B, 0, none⟩) ∧ FmB wx B (.mk 3 ⟨#[]⟩ [] [ff]) ∧ Below q2.heap.size q2 wx)
   case first =>
    obtain ⟨o, nm, a0, a1, a2, s0, s1, s2, hb, h2, h3, h4⟩ := HF8.out
    have cc := HK.blk_cell hb
    have c0 := cc 0
    have c1 := cc 1
    have c2 := cc 2
    have c3 := cc 3
    clear cc
    have hbs := build1 h2 h3 h4
    have hbb := below_alloc q2 (.cells #[.int .u8 (o : Int), .string nm, .slice a0 a1 a2, .slice s0 s1 s2] 35)
    have HC : Hid (Calls Tryd.prog 15 #[.int .u8 3, .slice (some ⟨q2.heap.size, 0, none⟩) 1 1] _ fun e w' => e = .returned (.agg #[.int .u8 3, .string ⟨#[]⟩, .slice none 0 0, .slice (some ⟨q2.heap.size, 0, none⟩) 1 1]) ∧ IsFv w' (.agg #[.int .u8 3, .string ⟨#[]⟩, .slice none 0 0, .slice (some ⟨q2.heap.size, 0, none⟩) 1 1]) (.mk 3 ⟨#[]⟩ [] [ff]) ∧ Below _ _ w') := Lib.hid (joinv (op := 3) (by omega) hbs)
    have HBB := Lib.hid hbb
    clear hbs hbb
    go_wp2_with (go_at_call 15; ((with_reducible refine HC.out.mono ?_); rintro e w' ⟨rfl, hfv, hB⟩))
    go_meet
    exact ⟨_, rfl, box_f (o := 3) hfv, below_tr (below_tr HBB.out hB) (below_alloc _ _)⟩
   case rest =>
    obtain ⟨B9, rfl, hnew, hB⟩ := hcut
    replace HM7 := Lib.hid (HM7.out.below hB)
    replace HF8 := Lib.hid (HF8.out.below hB)
    have HF9 := Lib.hid hnew
    replace HRW := Lib.hid (HRW.out.below hB)
    replace HBL := Lib.hid (below_tr HBL.out hB)
    obtain ⟨q3, hq3⟩ : ∃ q : World, q = wc := ⟨_, rfl⟩
    subst hq3
    clear hnew hB
    go_upto_region 6 with (fail)
    go_cut [10, 11] from 31 to 36 (fun v10 v11 wx => v10 = .int .i64 (va : Int) ∧ v11 = .int .i64 0 ∧ Below q3.heap.size q3 wx)
    case first =>
     obtain ⟨o, nm, a0, a1, a2, s0, s1, s2, hb, h2, h3, h4⟩ := HF8.out
     have cc := HK.blk_cell hb
     have c0 := cc 0
     have c1 := cc 1
     have c2 := cc 2
     have c3 := cc 3
     clear cc
     obtain ⟨mk', mz', lp', r0', r1', r2', t0', t1', t2', u0', u1', u2', b0', b1', b2', hb', h2', h3', h5', h4'⟩ := HM7.out
     have cc' := HK.blk_cell hb'
     have c0' := cc' 0
     have c1' := cc' 1
     have c2' := cc' 2
     have c3' := cc' 3
     have c4' := cc' 4
     have c5' := cc' 5
     have c6' := cc' 6
     clear cc'
     have hc := at_valv (W := q3) ⟨mk', mz', lp', r0', r1', r2', t0', t1', t2', u0', u1', u2', b0', b1', b2', rfl, h2', h3', h5', h4'⟩ ⟨o, nm, a0, a1, a2, s0, s1, s2, rfl, h2, h3, h4⟩ HRW.out HA1.out.1 HMO.out HA1.out.2.1 HA1.out.2.2.1 HA1.out.2.2.2
     have HC : Hid (Calls Tryd.prog 16 _ _ fun e w' => e = .returned (.tuple #[.int .i64 (va : Int), .int .i64 0]) ∧ _) := Lib.hid hc
     clear hc h2 h3 h4 h2' h3' h4' h5' hb hb'
     go_wp2_with (go_at_call 16; ((with_reducible refine HC.out.mono ?_); rintro e w' ⟨rfl, hB⟩))
     go_meet
     exact ⟨rfl, rfl, hB⟩
    case rest =>
     obtain ⟨rfl, rfl, hB⟩ := hcut
     replace HM7 := Lib.hid (HM7.out.below hB)
     replace HF8 := Lib.hid (HF8.out.below hB)
     replace HF9 := Lib.hid (HF9.out.below hB)
     replace HRW := Lib.hid (HRW.out.below hB)
     replace HBL := Lib.hid (below_tr HBL.out hB)
     obtain ⟨q4, hq4⟩ : ∃ q : World, q = wc := ⟨_, rfl⟩
     subst hq4
     clear hB
     go_upto_region 7 with (fail)
     go_cut [12, 13] from 37 to 42 (fun v12 v13 wx => v12 = .int .i64 (vb : Int) ∧ v13 = .int .i64 0 ∧ Below q4.heap.size q4 wx)
     case first =>
      obtain ⟨o, nm, a0, a1, a2, s0, s1, s2, hb, h2, h3, h4⟩ := HF9.out
      have cc := HK.blk_cell hb
      have c0 := cc 0
      have c1 := cc 1
      have c2 := cc 2
      have c3 := cc 3
      clear cc
      obtain ⟨mk', mz', lp', r0', r1', r2', t0', t1', t2', u0', u1', u2', b0', b1', b2', hb', h2', h3', h5', h4'⟩ := HM7.out
      have cc' := HK.blk_cell hb'
      have c0' := cc' 0
      have c1' := cc' 1
      have c2' := cc' 2
      have c3' := cc' 3
      have c4' := cc' 4
      have c5' := cc' 5
      have c6' := cc' 6
      clear cc'
      have hc := at_valv (W := q4) ⟨mk', mz', lp', r0', r1', r2', t0', t1', t2', u0', u1', u2', b0', b1', b2', rfl, h2', h3', h5', h4'⟩ ⟨o, nm, a0, a1, a2, s0, s1, s2, rfl, h2, h3, h4⟩ HRW.out HA2.out.1 HMO.out HA2.out.2.1 HA2.out.2.2.1 HA2.out.2.2.2
      have HC : Hid (Calls Tryd.prog 16 _ _ fun e w' => e = .returned (.tuple #[.int .i64 (vb : Int), .int .i64 0]) ∧ _) := Lib.hid hc
      clear hc h2 h3 h4 h2' h3' h4' h5' hb hb'
      go_wp2_with (go_at_call 16; ((with_reducible refine HC.out.mono ?_); rintro e w' ⟨rfl, hB⟩))
      go_meet
      exact ⟨rfl, rfl, hB⟩
     case rest =>
      obtain ⟨rfl, rfl, hB⟩ := hcut
      replace HM7 := Lib.hid (HM7.out.below hB)
      replace HF8 := Lib.hid (HF8.out.below hB)
      replace HF9 := Lib.hid (HF9.out.below hB)
      replace HRW := Lib.hid (HRW.out.below hB)
      replace HBL := Lib.hid (below_tr HBL.out hB)
      obtain ⟨q5, hq5⟩ : ∃ q : World, q = wc := ⟨_, rfl⟩
      subst hq5
      clear hB
      go_upto_region 8 with (fail)
      go_cut [14, 15] from 43 to 52 (fun v14 v15 wx => v14 = .int .i64 (vb : Int) ∧ v15 = .int .i64 0 ∧ Below q5.heap.size q5 wx)
      case first =>
       refine Go.RE.wp_region_eachg [44, 45, 46, 47, 48, 49, 50, 43, 51, 52, 14, 15] (fun L x W => (Below q5.heap.size q5 W) ∧ (L 0 = true → IsMv W (x 44) (mdl 3 n rl [u4, u5, u6])) ∧ (L 1 = true → IsFv W (x 45) (.mk 3 ⟨#[]⟩ [] [ff])) ∧ (L 2 = true → IsFsV W (x 46) [.mk 3 ⟨#[]⟩ [] [ff]]) ∧ (L 3 = true → IsFv W (x 47) (.mk 3 ⟨#[]⟩ [] [.mk 3 ⟨#[]⟩ [] [ff]])) ∧ (L 4 = true → IsFsV W (x 48) [.mk 3 ⟨#[]⟩ [] [.mk 3 ⟨#[]⟩ [] [ff]]]) ∧ (L 5 = true → IsFv W (x 49) (.mk 3 ⟨#[]⟩ [] [.mk 3 ⟨#[]⟩ [] [.mk 3 ⟨#[]⟩ [] [ff]]])) ∧ (L 6 = true → x 50 = .tuple #[.int .i64 (vb : Int), .int .i64 0]) ∧ (L 7 = true → x 43 = .tuple #[.int .i64 (vb : Int), .int .i64 0]) ∧ (L 8 = true → x 51 = .int .i64 (vb : Int)) ∧ (L 9 = true → x 52 = .int .i64 0) ∧ (L 10 = true → x 14 = .int .i64 (vb : Int)) ∧ (L 11 = true → x 15 = .int .i64 0)) (by kernel_rfl) (by kernel_rfl) (by kernel_rfl) ?_ ((Go.RE.Each.cons ?_ (Go.RE.Each.cons ?_ (Go.RE.Each.cons ?_ (Go.RE.Each.cons ?_ (Go.RE.Each.cons ?_ (Go.RE.Each.cons ?_ (Go.RE.Each.cons ?_ (Go.RE.Each.cons ?_ (Go.RE.Each.cons ?_ (Go.RE.Each.cons ?_ (Go.RE.Each.cons ?_ (Go.RE.Each.cons ?_ Go.RE.Each.nil))))))))))))) ?_
       ·exact fun x => ⟨bl_dr (Below.refl _ _), fun h => (by cases h), fun h => (by cases h), fun h => (by cases h), fun h => (by cases h), fun h => (by cases h), fun h => (by cases h), fun h => (by cases h), fun h => (by cases h), fun h => (by cases h), fun h => (by cases h), fun h => (by cases h), fun h => (by cases h)⟩
       ·intro L x a wR K hL hd hf hx hΦ hK
        obtain ⟨hI, f0, f1, f2, f3, f4, f5, f6, f7, f8, f9, f10, f11⟩ := hΦ
        refine ⟨fun _ => ?_, fun h => absurd h (by rw [Go.RE.wanted_none rfl]; decide)⟩
        have e7 : a.tmps[7]? = some (.pointer (some ⟨B7, 0, none⟩)) := hf 7 (of_decide_eq_true (by kernel_rfl))
        clear hf hx hd
        obtain ⟨mk, mz, lp, r0, r1, r2, t0, t1, t2, u0, u1, u2, b0, b1, b2, hb, h2, h3, h5, h4⟩ := (HM7.out.below hI)
        have cc := HK.blk_cell hb
        have c0 := cc 0
        have c1 := cc 1
        have c2 := cc 2
        have c3 := cc 3
        have c4 := cc 4
        have c5 := cc 5
        have c6 := cc 6
        clear cc
        go_simp
        refine hK _ _ ?_
        exact ⟨hI, fun _ => ⟨mk, mz, lp, r0, r1, r2, t0, t1, t2, u0, u1, u2, b0, b1, b2, rfl, h2, h3, h5, h4⟩, fun h => f1 h, fun h => f2 h, fun h => f3 h, fun h => f4 h, fun h => f5 h, fun h => f6 h, fun h => f7 h, fun h => f8 h, fun h => f9 h, fun h => f10 h, fun h => f11 h⟩
       ·intro L x a wR K hL hd hf hx hΦ hK
        obtain ⟨hI, f0, f1, f2, f3, f4, f5, f6, f7, f8, f9, f10, f11⟩ := hΦ
        refine ⟨fun _ => ?_, fun h => absurd h (by rw [Go.RE.wanted_none rfl]; decide)⟩
        have e9 : a.tmps[9]? = some (.pointer (some ⟨B9, 0, none⟩)) := hf 9 (of_decide_eq_true (by kernel_rfl))
        clear hf hx hd
        obtain ⟨o, nm, a0, a1, a2, s0, s1, s2, hb, h2, h3, h4⟩ := (HF9.out.below hI)
        have cc := HK.blk_cell hb
        have c0 := cc 0
        have c1 := cc 1
        have c2 := cc 2
        have c3 := cc 3
        clear cc
        go_simp
        refine hK _ _ ?_
        exact ⟨hI, fun h => f0 h, fun _ => ⟨o, nm, a0, a1, a2, s0, s1, s2, rfl, h2, h3, h4⟩, fun h => f2 h, fun h => f3 h, fun h => f4 h, fun h => f5 h, fun h => f6 h, fun h => f7 h, fun h => f8 h, fun h => f9 h, fun h => f10 h, fun h => f11 h⟩
       ·intro L x a wR K hL hd hf hx hΦ hK
        obtain ⟨hI, f0, f1, f2, f3, f4, f5, f6, f7, f8, f9, f10, f11⟩ := hΦ
        refine ⟨fun _ => ?_, fun h => absurd h (by rw [Go.RE.wanted_none rfl]; decide)⟩
        have d1 := f1 (hd 1 (by kernel_rfl))
        have e45 : a.tmps[45]? = some (x 45) := hx 1 _ 45 rfl rfl (hd 1 (by kernel_rfl))
        clear hf hx hd
        obtain ⟨o, nm, a0, a1, a2, s0, s1, s2, hv, h2, h3, h4⟩ := d1
        rw [hv] at e45
        go_simp
        refine hK _ _ ?_
        exact ⟨below_tr hI (below_alloc _ _), fun h => (f0 h).below (below_alloc wR _), fun h => (f1 h).below (below_alloc wR _), fun _ => build1 h2 h3 h4, fun h => (f3 h).below (below_alloc wR _), fun h => (f4 h).below (below_alloc wR _), fun h => (f5 h).below (below_alloc wR _), fun h => f6 h, fun h => f7 h, fun h => f8 h, fun h => f9 h, fun h => f10 h, fun h => f11 h⟩
       ·intro L x a wR K hL hd hf hx hΦ hK
        obtain ⟨hI, f0, f1, f2, f3, f4, f5, f6, f7, f8, f9, f10, f11⟩ := hΦ
        refine ⟨fun _ => ?_, fun h => absurd h (by rw [Go.RE.wanted_none rfl]; decide)⟩
        have d2 := f2 (hd 2 (by kernel_rfl))
        have e46 : a.tmps[46]? = some (x 46) := hx 2 _ 46 rfl rfl (hd 2 (by kernel_rfl))
        clear hf hx hd
        obtain ⟨s0, s1, s2, hv, h2⟩ := d2
        rw [hv] at e46
        have HC : Hid (Calls Tryd.prog 15 #[.int .u8 3, .slice s0 s1 s2] wR fun e w' => e = .returned (.agg #[.int .u8 3, .string ⟨#[]⟩, .slice none 0 0, .slice s0 s1 s2]) ∧ IsFv w' (.agg #[.int .u8 3, .string ⟨#[]⟩, .slice none 0 0, .slice s0 s1 s2]) (.mk 3 ⟨#[]⟩ [] [.mk 3 ⟨#[]⟩ [] [ff]]) ∧ Below wR.heap.size wR w') := Lib.hid (joinv (op := 3) (by omega) ⟨s0, s1, s2, rfl, h2⟩)
        go_simp
        go_at_call 15
        with_reducible refine HC.out.mono ?_
        rintro e w' ⟨rfl, hfv, hB8⟩
        simp only
        refine hK _ _ ?_
        exact ⟨below_tr hI hB8, fun h => (f0 h).below hB8, fun h => (f1 h).below hB8, fun h => (f2 h).below hB8, fun _ => hfv, fun h => (f4 h).below hB8, fun h => (f5 h).below hB8, fun h => f6 h, fun h => f7 h, fun h => f8 h, fun h => f9 h, fun h => f10 h, fun h => f11 h⟩
       ·intro L x a wR K hL hd hf hx hΦ hK
        obtain ⟨hI, f0, f1, f2, f3, f4, f5, f6, f7, f8, f9, f10, f11⟩ := hΦ
        refine ⟨fun _ => ?_, fun h => absurd h (by rw [Go.RE.wanted_none rfl]; decide)⟩
        have d3 := f3 (hd 3 (by kernel_rfl))
        have e47 : a.tmps[47]? = some (x 47) := hx 3 _ 47 rfl rfl (hd 3 (by kernel_rfl))
        clear hf hx hd
        obtain ⟨o, nm, a0, a1, a2, s0, s1, s2, hv, h2, h3, h4⟩ := d3
        rw [hv] at e47
        go_simp
        refine hK _ _ ?_
        exact ⟨below_tr hI (below_alloc _ _), fun h => (f0 h).below (below_alloc wR _), fun h => (f1 h).below (below_alloc wR _), fun h => (f2 h).below (below_alloc wR _), fun h => (f3 h).below (below_alloc wR _), fun _ => build1 h2 h3 h4, fun h => (f5 h).below (below_alloc wR _), fun h => f6 h, fun h => f7 h, fun h => f8 h, fun h => f9 h, fun h => f10 h, fun h => f11 h⟩
       ·intro L x a wR K hL hd hf hx hΦ hK
        obtain ⟨hI, f0, f1, f2, f3, f4, f5, f6, f7, f8, f9, f10, f11⟩ := hΦ
        refine ⟨fun _ => ?_, fun h => absurd h (by rw [Go.RE.wanted_none rfl]; decide)⟩
        have d4 := f4 (hd 4 (by kernel_rfl))
        have e48 : a.tmps[48]? = some (x 48) := hx 4 _ 48 rfl rfl (hd 4 (by kernel_rfl))
        clear hf hx hd
        obtain ⟨s0, s1, s2, hv, h2⟩ := d4
        rw [hv] at e48
        have HC : Hid (Calls Tryd.prog 15 #[.int .u8 3, .slice s0 s1 s2] wR fun e w' => e = .returned (.agg #[.int .u8 3, .string ⟨#[]⟩, .slice none 0 0, .slice s0 s1 s2]) ∧ IsFv w' (.agg #[.int .u8 3, .string ⟨#[]⟩, .slice none 0 0, .slice s0 s1 s2]) (.mk 3 ⟨#[]⟩ [] [.mk 3 ⟨#[]⟩ [] [.mk 3 ⟨#[]⟩ [] [ff]]]) ∧ Below wR.heap.size wR w') := Lib.hid (joinv (op := 3) (by omega) ⟨s0, s1, s2, rfl, h2⟩)
        go_simp
        go_at_call 15
        with_reducible refine HC.out.mono ?_
        rintro e w' ⟨rfl, hfv, hB8⟩
        simp only
        refine hK _ _ ?_
        exact ⟨below_tr hI hB8, fun h => (f0 h).below hB8, fun h => (f1 h).below hB8, fun h => (f2 h).below hB8, fun h => (f3 h).below hB8, fun h => (f4 h).below hB8, fun _ => hfv, fun h => f6 h, fun h => f7 h, fun h => f8 h, fun h => f9 h, fun h => f10 h, fun h => f11 h⟩
       ·intro L x a wR K hL hd hf hx hΦ hK
        obtain ⟨hI, f0, f1, f2, f3, f4, f5, f6, f7, f8, f9, f10, f11⟩ := hΦ
        refine ⟨fun _ => ?_, fun h => absurd h (by rw [Go.RE.wanted_none rfl]; decide)⟩
        have d0 := f0 (hd 0 (by kernel_rfl))
        have e44 : a.tmps[44]? = some (x 44) := hx 0 _ 44 rfl rfl (hd 0 (by kernel_rfl))
        have d5 := f5 (hd 5 (by kernel_rfl))
        have e49 : a.tmps[49]? = some (x 49) := hx 5 _ 49 rfl rfl (hd 5 (by kernel_rfl))
        clear hf hx hd
        have hc := at_valv d0 d5 (HRW.out.below hI) HA3.out.1 HMO.out HA3.out.2.1 HA3.out.2.2.1 HA3.out.2.2.2
        obtain ⟨mk, mz, lp, r0, r1, r2, t0, t1, t2, u0, u1, u2, b0, b1, b2, hv, _, _, _, _⟩ := d0
        obtain ⟨o', nm', a0', a1', a2', s0', s1', s2', hv', _, _, _⟩ := d5
        rw [hv] at e44
        rw [hv'] at e49
        rw [hv, hv'] at hc
        have HC : Hid (Calls Tryd.prog 16 _ _ fun e w' => e = .returned (.tuple #[.int .i64 (vb : Int), .int .i64 0]) ∧ _) := Lib.hid hc
        clear hc
        go_simp
        go_at_call 16
        with_reducible refine HC.out.mono ?_
        rintro e w' ⟨rfl, hB8⟩
        simp only
        refine hK _ _ ?_
        exact ⟨below_tr hI hB8, fun h => (f0 h).below hB8, fun h => (f1 h).below hB8, fun h => (f2 h).below hB8, fun h => (f3 h).below hB8, fun h => (f4 h).below hB8, fun h => (f5 h).below hB8, fun _ => rfl, fun h => f7 h, fun h => f8 h, fun h => f9 h, fun h => f10 h, fun h => f11 h⟩
       ·intro L x a wR K hL hd hf hx hΦ hK
        obtain ⟨hI, f0, f1, f2, f3, f4, f5, f6, f7, f8, f9, f10, f11⟩ := hΦ
        refine ⟨fun _ => ?_, fun h => absurd h (by rw [Go.RE.wanted_none rfl]; decide)⟩
        have d6 := f6 (hd 6 (by kernel_rfl))
        have e50 : a.tmps[50]? = some (x 50) := hx 6 _ 50 rfl rfl (hd 6 (by kernel_rfl))
        rw [d6] at e50
        clear hf hx hd
        go_simp
        refine hK _ _ ?_
        exact ⟨hI, fun h => f0 h, fun h => f1 h, fun h => f2 h, fun h => f3 h, fun h => f4 h, fun h => f5 h, fun h => f6 h, fun _ => rfl, fun h => f8 h, fun h => f9 h, fun h => f10 h, fun h => f11 h⟩
       ·intro L x a wR K hL hd hf hx hΦ hK
        obtain ⟨hI, f0, f1, f2, f3, f4, f5, f6, f7, f8, f9, f10, f11⟩ := hΦ
        refine ⟨fun _ => ?_, fun h => absurd h (by rw [Go.RE.wanted_none rfl]; decide)⟩
        have d7 := f7 (hd 7 (by kernel_rfl))
        have e43 : a.tmps[43]? = some (x 43) := hx 7 _ 43 rfl rfl (hd 7 (by kernel_rfl))
        rw [d7] at e43
        clear hf hx hd
        go_simp
        refine hK _ _ ?_
        exact ⟨hI, fun h => f0 h, fun h => f1 h, fun h => f2 h, fun h => f3 h, fun h => f4 h, fun h => f5 h, fun h => f6 h, fun h => f7 h, fun _ => rfl, fun h => f9 h, fun h => f10 h, fun h => f11 h⟩
       ·intro L x a wR K hL hd hf hx hΦ hK
        obtain ⟨hI, f0, f1, f2, f3, f4, f5, f6, f7, f8, f9, f10, f11⟩ := hΦ
        refine ⟨fun _ => ?_, fun h => absurd h (by rw [Go.RE.wanted_none rfl]; decide)⟩
        have d7 := f7 (hd 7 (by kernel_rfl))
        have e43 : a.tmps[43]? = some (x 43) := hx 7 _ 43 rfl rfl (hd 7 (by kernel_rfl))
        rw [d7] at e43
        clear hf hx hd
        go_simp
        refine hK _ _ ?_
        exact ⟨hI, fun h => f0 h, fun h => f1 h, fun h => f2 h, fun h => f3 h, fun h => f4 h, fun h => f5 h, fun h => f6 h, fun h => f7 h, fun h => f8 h, fun _ => rfl, fun h => f10 h, fun h => f11 h⟩
       ·intro L x a wR K hL hd hf hx hΦ hK
        obtain ⟨hI, f0, f1, f2, f3, f4, f5, f6, f7, f8, f9, f10, f11⟩ := hΦ
        refine ⟨fun _ => ?_, fun h => absurd h (by rw [Go.RE.wanted_none rfl]; decide)⟩
        have d8 := f8 (hd 8 (by kernel_rfl))
        have e51 : a.tmps[51]? = some (x 51) := hx 8 _ 51 rfl rfl (hd 8 (by kernel_rfl))
        rw [d8] at e51
        clear hf hx hd
        go_simp
        refine hK _ _ ?_
        exact ⟨hI, fun h => f0 h, fun h => f1 h, fun h => f2 h, fun h => f3 h, fun h => f4 h, fun h => f5 h, fun h => f6 h, fun h => f7 h, fun h => f8 h, fun h => f9 h, fun _ => rfl, fun h => f11 h⟩
       ·intro L x a wR K hL hd hf hx hΦ hK
        obtain ⟨hI, f0, f1, f2, f3, f4, f5, f6, f7, f8, f9, f10, f11⟩ := hΦ
        refine ⟨fun _ => ?_, fun h => absurd h (by rw [Go.RE.wanted_none rfl]; decide)⟩
        have d9 := f9 (hd 9 (by kernel_rfl))
        have e52 : a.tmps[52]? = some (x 52) := hx 9 _ 52 rfl rfl (hd 9 (by kernel_rfl))
        rw [d9] at e52
        clear hf hx hd
        go_simp
        refine hK _ _ ?_
        exact ⟨hI, fun h => f0 h, fun h => f1 h, fun h => f2 h, fun h => f3 h, fun h => f4 h, fun h => f5 h, fun h => f6 h, fun h => f7 h, fun h => f8 h, fun h => f9 h, fun h => f10 h, fun _ => rfl⟩
       ·rintro x W ⟨hI, f0, f1, f2, f3, f4, f5, f6, f7, f8, f9, f10, f11⟩
        simp only [Exit.then]
        go_step
        go_meet
        exact ⟨f10 rfl, f11 rfl, hI⟩
      case rest =>
       obtain ⟨rfl, rfl, hB⟩ := hcut
       replace HM7 := Lib.hid (HM7.out.below hB)
       replace HF8 := Lib.hid (HF8.out.below hB)
       replace HF9 := Lib.hid (HF9.out.below hB)
       replace HRW := Lib.hid (HRW.out.below hB)
       replace HBL := Lib.hid (below_tr HBL.out hB)
       obtain ⟨q6, hq6⟩ : ∃ q : World, q = wc := ⟨_, rfl⟩
       subst hq6
       clear hB
       go_upto_region 9 with (fail)
       go_cut [16, 17] from 53 to 58 (fun v16 v17 wx => v16 = .bool vi ∧ v17 = .int .i64 0 ∧ Below q6.heap.size q6 wx)
       case first =>
        obtain ⟨o, nm, a0, a1, a2, s0, s1, s2, hb, h2, h3, h4⟩ := HF8.out
        have cc := HK.blk_cell hb
        have c0 := cc 0
        have c1 := cc 1
        have c2 := cc 2
        have c3 := cc 3
        clear cc
        obtain ⟨mk', mz', lp', r0', r1', r2', t0', t1', t2', u0', u1', u2', b0', b1', b2', hb', h2', h3', h5', h4'⟩ := HM7.out
        have cc' := HK.blk_cell hb'
        have c0' := cc' 0
        have c1' := cc' 1
        have c2' := cc' 2
        have c3' := cc' 3
        have c4' := cc' 4
        have c5' := cc' 5
        have c6' := cc' 6
        clear cc'
        have hc := holds_valv (W := q6) ⟨mk', mz', lp', r0', r1', r2', t0', t1', t2', u0', u1', u2', b0', b1', b2', rfl, h2', h3', h5', h4'⟩ ⟨o, nm, a0, a1, a2, s0, s1, s2, rfl, h2, h3, h4⟩ HRW.out HA4.out.1 HMO.out HA4.out.2.1 HA4.out.2.2.1 HA4.out.2.2.2
        have HC : Hid (Calls Tryd.prog 17 _ _ fun e w' => e = .returned (.tuple #[.bool vi, .int .i64 0]) ∧ _) := Lib.hid hc
        clear hc h2 h3 h4 h2' h3' h4' h5' hb hb'
        go_wp2_with (go_at_call 17; ((with_reducible refine HC.out.mono ?_); rintro e w' ⟨rfl, hB⟩))
        go_meet
        exact ⟨rfl, rfl, hB⟩
       case rest =>
        obtain ⟨rfl, rfl, hB⟩ := hcut
        replace HM7 := Lib.hid (HM7.out.below hB)
        replace HF8 := Lib.hid (HF8.out.below hB)
        replace HF9 := Lib.hid (HF9.out.below hB)
        replace HRW := Lib.hid (HRW.out.below hB)
        replace HBL := Lib.hid (below_tr HBL.out hB)
        obtain ⟨q7, hq7⟩ : ∃ q : World, q = wc := ⟨_, rfl⟩
        subst hq7
        clear hB
        obtain ⟨mk, mz, lp, r0, r1, r2, t0, t1, t2, v0, v1, v2, b0, b1, b2, hb, h2, h3, h5, h4⟩ := HM7.out
        obtain rfl : mk = 3 := h2.symm
        obtain rfl : mz = (n : Int) := h3.symm
        have hr1 : r1 = n := by
         have e : r1 = (rl.map fun x : Nat => (x : Int)).length := h4.r.1
         rw [List.length_map, HLEN.out] at e
         exact e
        obtain ⟨g, o, hr0⟩ := h4.r.pos (show 0 < r1 by omega)
        simp only [] at hr0
        subst hr0 hr1
        have hR0 : IsR q7 g o rl := IsZ.r h4.r.z
        have hval := validMv (W := q7) (m := mdl 3 r1 rl [u4, u5, u6]) ⟨3, (r1 : Int), lp, some ⟨g, o, none⟩, r1, r2, t0, t1, t2, v0, v1, v2, b0, b1, b2, rfl, h2, h3, h5, h4⟩
        rw [HMO.out] at hval
        have HVL : Hid (Calls Tryd.prog 18 #[.agg #[.int .u8 3, .int .i64 (r1 : Int), .slice (some ⟨g, o, none⟩) r1 r2, .int .i64 lp, .slice t0 t1 t2, .slice v0 v1 v2, .slice b0 b1 b2]] q7 (RetW q7 true)) := Lib.hid hval
        unfold RetW at HVL
        have hbc : q7.heap[B7]? = some (.cells #[.int .u8 3, .int .i64 (r1 : Int), .slice (some ⟨g, o, none⟩) r1 r2, .int .i64 lp, .slice t0 t1 t2, .slice v0 v1 v2, .slice b0 b1 b2] 30 (0, 0)) := hb
        have HBX := Lib.hid hbc
        have HRR := Lib.hid hR0
        clear hb h2 h3 h4 h5 hbc hR0 hval
        go_upto_region 10 with (fail)
        go_cut [100] from 59 to 99 (fun v wx => v = .bool false ∧ Below q7.heap.size q7 wx)
        case first =>
         have cc := HK.blk_cell HBX.out
         have c0 := cc 0
         have c1 := cc 1
         have c2 := cc 2
         have c3 := cc 3
         have c4 := cc 4
         have c5 := cc 5
         have c6 := cc 6
         have hv16 := HV16.out
         have eand := bits_and va vb (by omega) (by omega)
         rw [HP1.out] at eand
         have hvi := HVI.out
         have HUP : Hid (∀ W, Below q7.heap.size q7 W → W.cell? ⟨B7, 1, none⟩ = some (.int .i64 (r1 : Int))) := Lib.hid fun W h => HK.blk_cell (blk_up9 h HBX.out) 1
         cases vi
         ·have e1 : bits .and .i64 (va : Int) 1 = 0 := by have := bit0 (m := va) (k := 0) (by omega) hvi.symm; simpa using this
          clear hv16 hvi cc
          go_wp2_with (go_at_call 18; ((with_reducible refine HVL.out.mono ?_); rintro e w' ⟨rfl, hB⟩))
          go_meet
          exact ⟨rfl, hB⟩
         ·have e1 : bits .and .i64 (va : Int) 1 = 1 := by have := bit1 (m := va) (k := 0) (by omega) hvi.symm; simpa using this
          have hall := HP3.out hvi.symm
          rw [HLEN.out] at hall
          obtain ⟨z, hz⟩ : ∃ z, z = 1 <<< r1 := ⟨_, rfl⟩
          have f1 := shl_wrap (k := r1) (by omega)
          rw [← hz] at f1
          have f2 := (IntWalk.i64_left _).symm.trans f1
          have hz2 : 2 ^ r1 = z := by rw [hz, Nat.one_shiftLeft]
          have hz3 := Nat.two_pow_pos r1
          have e2 : (z : Int) - 1 = (va : Int) := by omega
          have e3 : IntKind.i64.wrap ((z : Int) - 1) = (va : Int) := by rw [IntWalk.i64_in _ (by omega)]; exact e2
          have e4 : wrap64 ((z : Int) - 1) = (va : Int) := (IntWalk.i64_left _).symm.trans e3
          have qn : (0 : Int) ≤ (r1 : Int) := by omega
          have hmin : min r1 64 = r1 := by omega
          clear hv16 hvi cc hall hz hz2 hz3 e2
          go_wp2_with (go_at_call 18; ((with_reducible refine HVL.out.mono ?_); rintro e w' ⟨rfl, hB⟩; have c1' := HUP.out _ hB))
          go_meet
          exact ⟨rfl, hB⟩
        case rest =>
         obtain ⟨rfl, hB⟩ := hcut
         obtain ⟨q8, hq8⟩ : ∃ q : World, q = wc := ⟨_, rfl⟩
         subst hq8
         have HB8 := Lib.hid hB
         clear hB
         go_wp2_with (fail)
         go_loopw [18] (fun i wr => ∃ k : Nat, k ≤ r1 ∧ i = .int .i64 k ∧ Below q7.heap.size q7 wr) (fun i _ => r1 - (intOf i).toNat)
         case atStart => exact ⟨0, by omega, rfl, HB8.out⟩
         case round =>
          obtain ⟨k, hk, rfl, hB⟩ := hrel
          have HB := Lib.hid hB
          have hbx := blk_up9 hB HBX.out
          have c1 := HK.blk_cell hbx 1
          by_cases hkn : (k : Int) < (r1 : Int)
          ·have b0 : (0 : Int) ≤ (k : Int) := by omega
           obtain ⟨rk, hrk⟩ : ∃ x, rl[k]? = some x := ⟨_, List.getElem?_eq_getElem (by rw [HLEN.out]; omega)⟩
           have hgk := getD_get hrk
           have hr16 : rk < 16 := by rw [← hgk]; exact HFO.out.1.ok.get k
           have hv16 := HV16.out
           have HM2 : Hid (∀ W, Below wr.heap.size wr W → W.cell? ⟨B7, 2, none⟩ = some (.slice (some ⟨g, o, none⟩) r1 r2)) := Lib.hid fun W h => HK.blk_cell (blk_up9 h hbx) 2
           have hRw : IsR wr g o rl := HRR.out.below hB
           have HRK : Hid (∀ W, Below wr.heap.size wr W → W.cell? ⟨g, o + k, none⟩ = some (.int .i64 (rk : Int))) := Lib.hid fun W h => (hRw.below h) k rk hrk
           obtain ⟨qa, hqa⟩ : ∃ qa, qa = va >>> k := ⟨_, rfl⟩
           obtain ⟨qb, hqb⟩ : ∃ qb, qb = vb >>> k := ⟨_, rfl⟩
           have HSH : Hid ((va : Int) / 2 ^ k = (qa : Int) ∧ (vb : Int) / 2 ^ k = (qb : Int)) := Lib.hid ⟨by rw [hqa]; exact quo_nat va k, by rw [hqb]; exact quo_nat vb k⟩
           have HMN : Hid (min k 64 = k) := Lib.hid (by omega)
           have HK0 := Lib.hid b0
           have HK1 := Lib.hid hkn
           obtain ⟨rv, hrv⟩ : ∃ rv, rv = rk &&& va := ⟨_, rfl⟩
           have HRV : Hid (bits .and .i64 (rk : Int) (va : Int) = (rv : Int)) := Lib.hid (by rw [hrv]; exact bits_and rk va (by omega) (by omega))
           have hp5 := HP5.out k (by rw [HLEN.out]; omega)
           rw [hgk, ← hrv] at hp5
           have hp4 := HP4.out k
           rw [hgk] at hp4
           have hA0 : va.testBit k = false → bits .and .i64 (qa : Int) 1 = 0 := fun h => by rw [← HSH.out.1]; exact bit0 (by omega) h
           have hA1 : va.testBit k = true → bits .and .i64 (qa : Int) 1 = 1 := fun h => by rw [← HSH.out.1]; exact bit1 (by omega) h
           have hB0 : vb.testBit k = false → bits .and .i64 (qb : Int) 1 = 0 := fun h => by rw [← HSH.out.2]; exact bit0 (by omega) h
           have hB1 : vb.testBit k = true → bits .and .i64 (qb : Int) 1 = 1 := fun h => by rw [← HSH.out.2]; exact bit1 (by omega) h
           have hAN : va.testBit k = true → bits .andNot .i64 (rk : Int) (va : Int) = 0 := fun h => by rw [bits_andn rk va (by omega) (by omega), hp4 h]; rfl
           go_upto_region 15 with (fail)
           clear c1
           go_cut [137] from 107 to 136 (fun v wx => v = .bool false ∧ Below wr.heap.size wr wx)
           case first =>
            rcases eb : vb.testBit k with _ | _
            ·have HBB := Lib.hid (hB0 eb)
             have HRZ : Hid (((rv : Int) == 0) = false) := Lib.hid (by
              have : ¬ rv = 0 := fun h => by rw [hp5.2 h] at eb; cases eb
              simp; omega)
             rcases ea : va.testBit k with _ | _
             ·have HAB := Lib.hid (hA0 ea)
              clear hA0 hA1 hB0 hB1 hAN hp4 hp5 hrv hqa hqb hrk hgk hr16 hv16 ea eb b0 hkn
              refine Go.RE.wp_region_eachg [107, 108, 109, 110, 111, 112, 113, 114, 115, 116, 117, 118, 119, 120, 121, 122, 123, 124, 125, 126, 127, 128, 129, 130, 131, 132, 133, 134, 135, 136, 137] (fun L x W => (Below wr.heap.size wr W) ∧ (L 0 = true → x 107 = .int .i64 (va : Int)) ∧ (L 1 = true → x 108 = .int .i64 (k : Int)) ∧ (L 2 = true → x 109 = .int .i64 (qa : Int)) ∧ (L 3 = true → x 110 = .int .i64 0) ∧ (L 4 = true → x 111 = .bool false) ∧ (L 5 = true → x 112 = .bool false) ∧ (L 6 = true → x 113 = undef) ∧ (L 7 = true → x 114 = undef) ∧ (L 8 = true → x 115 = undef) ∧ (L 9 = true → x 116 = undef) ∧ (L 10 = true → x 117 = undef) ∧ (L 11 = true → x 118 = undef) ∧ (L 12 = true → x 119 = undef) ∧ (L 13 = true → x 120 = undef) ∧ (L 14 = true → x 121 = .bool false) ∧ (L 15 = true → x 122 = .bool false) ∧ (L 16 = true → x 123 = .int .i64 (vb : Int)) ∧ (L 17 = true → x 124 = .int .i64 (k : Int)) ∧ (L 18 = true → x 125 = .int .i64 (qb : Int)) ∧ (L 19 = true → x 126 = .int .i64 0) ∧ (L 20 = true → x 127 = .bool false) ∧ (L 21 = true → x 128 = .pointer (some ⟨B7, 2, none⟩)) ∧ (L 22 = true → x 129 = .slice (some ⟨g, o, none⟩) r1 r2) ∧ (L 23 = true → x 130 = .int .i64 (k : Int)) ∧ (L 24 = true → x 131 = .pointer (some ⟨g, o + k, none⟩)) ∧ (L 25 = true → x 132 = .int .i64 (rk : Int)) ∧ (L 26 = true → x 133 = .int .i64 (va : Int)) ∧ (L 27 = true → x 134 = .int .i64 (rv : Int)) ∧ (L 28 = true → x 135 = .bool false) ∧ (L 29 = true → x 136 = .bool false) ∧ (L 30 = true → x 137 = .bool false)) (by kernel_rfl) (by kernel_rfl) (by kernel_rfl) ?_ ((Go.RE.Each.cons ?_ (Go.RE.Each.cons ?_ (Go.RE.Each.cons ?_ (Go.RE.Each.cons ?_ (Go.RE.Each.cons ?_ (Go.RE.Each.cons ?_ (Go.RE.Each.cons ?_ (Go.RE.Each.cons ?_ (Go.RE.Each.cons ?_ (Go.RE.Each.cons ?_ (Go.RE.Each.cons ?_ (Go.RE.Each.cons ?_ (Go.RE.Each.cons ?_ (Go.RE.Each.cons ?_ (Go.RE.Each.cons ?_ (Go.RE.Each.cons ?_ (Go.RE.Each.cons ?_ (Go.RE.Each.cons ?_ (Go.RE.Each.cons ?_ (Go.RE.Each.cons ?_ (Go.RE.Each.cons ?_ (Go.RE.Each.cons ?_ (Go.RE.Each.cons ?_ (Go.RE.Each.cons ?_ (Go.RE.Each.cons ?_ (Go.RE.Each.cons ?_ (Go.RE.Each.cons ?_ (Go.RE.Each.cons ?_ (Go.RE.Each.cons ?_ (Go.RE.Each.cons ?_ (Go.RE.Each.cons ?_ Go.RE.Each.nil)))))))))))))))))))))))))))))))) ?_
              ·exact fun x => ⟨bl_dr (Below.refl _ _), fun h => (by cases h), fun h => (by cases h), fun h => (by cases h), fun h => (by cases h), fun h => (by cases h), fun h => (by cases h), fun h => (by cases h), fun h => (by cases h), fun h => (by cases h), fun h => (by cases h), fun h => (by cases h), fun h => (by cases h), fun h => (by cases h), fun h => (by cases h), fun h => (by cases h), fun h => (by cases h), fun h => (by cases h), fun h => (by cases h), fun h => (by cases h), fun h => (by cases h), fun h => (by cases h), fun h => (by cases h), fun h => (by cases h), fun h => (by cases h), fun h => (by cases h), fun h => (by cases h), fun h => (by cases h), fun h => (by cases h), fun h => (by cases h), fun h => (by cases h), fun h => (by cases h)⟩
              ·intro L x a wR K hL hd hf hx hΦ hK
               obtain ⟨hI, f0, f1, f2, f3, f4, f5, f6, f7, f8, f9, f10, f11, f12, f13, f14, f15, f16, f17, f18, f19, f20, f21, f22, f23, f24, f25, f26, f27, f28, f29, f30⟩ := hΦ
               refine ⟨fun _ => ?_, fun h => absurd h (by rw [Go.RE.wanted_none rfl]; decide)⟩
               have e10 : a.tmps[10]? = some (.int .i64 (va : Int)) := hf 10 (of_decide_eq_true (by kernel_rfl))
               clear hf hx hd
               go_simp
               refine hK _ _ ?_
               exact ⟨hI, fun _ => rfl, fun h => f1 h, fun h => f2 h, fun h => f3 h, fun h => f4 h, fun h => f5 h, fun h => f6 h, fun h => f7 h, fun h => f8 h, fun h => f9 h, fun h => f10 h, fun h => f11 h, fun h => f12 h, fun h => f13 h, fun h => f14 h, fun h => f15 h, fun h => f16 h, fun h => f17 h, fun h => f18 h, fun h => f19 h, fun h => f20 h, fun h => f21 h, fun h => f22 h, fun h => f23 h, fun h => f24 h, fun h => f25 h, fun h => f26 h, fun h => f27 h, fun h => f28 h, fun h => f29 h, fun h => f30 h⟩
              ·intro L x a wR K hL hd hf hx hΦ hK
               obtain ⟨hI, f0, f1, f2, f3, f4, f5, f6, f7, f8, f9, f10, f11, f12, f13, f14, f15, f16, f17, f18, f19, f20, f21, f22, f23, f24, f25, f26, f27, f28, f29, f30⟩ := hΦ
               refine ⟨fun _ => ?_, fun h => absurd h (by rw [Go.RE.wanted_none rfl]; decide)⟩
               have e18 : a.tmps[18]? = some (.int .i64 (k : Int)) := hf 18 (of_decide_eq_true (by kernel_rfl))
               clear hf hx hd
               go_simp
               refine hK _ _ ?_
               exact ⟨hI, fun h => f0 h, fun _ => rfl, fun h => f2 h, fun h => f3 h, fun h => f4 h, fun h => f5 h, fun h => f6 h, fun h => f7 h, fun h => f8 h, fun h => f9 h, fun h => f10 h, fun h => f11 h, fun h => f12 h, fun h => f13 h, fun h => f14 h, fun h => f15 h, fun h => f16 h, fun h => f17 h, fun h => f18 h, fun h => f19 h, fun h => f20 h, fun h => f21 h, fun h => f22 h, fun h => f23 h, fun h => f24 h, fun h => f25 h, fun h => f26 h, fun h => f27 h, fun h => f28 h, fun h => f29 h, fun h => f30 h⟩
              ·intro L x a wR K hL hd hf hx hΦ hK
               obtain ⟨hI, f0, f1, f2, f3, f4, f5, f6, f7, f8, f9, f10, f11, f12, f13, f14, f15, f16, f17, f18, f19, f20, f21, f22, f23, f24, f25, f26, f27, f28, f29, f30⟩ := hΦ
               refine ⟨fun _ => ?_, fun h => absurd h (by rw [Go.RE.wanted_none rfl]; decide)⟩
               have d0 := f0 (hd 0 (by kernel_rfl))
               have e107 : a.tmps[107]? = some (x 107) := hx 0 _ 107 rfl rfl (hd 0 (by kernel_rfl))
               rw [d0] at e107
               have d1 := f1 (hd 1 (by kernel_rfl))
               have e108 : a.tmps[108]? = some (x 108) := hx 1 _ 108 rfl rfl (hd 1 (by kernel_rfl))
               rw [d1] at e108
               have sh1 := HSH.out.1
               have hmin := HMN.out
               have b0 := HK0.out
               clear hf hx hd
               go_simp
               refine hK _ _ ?_
               exact ⟨hI, fun h => f0 h, fun h => f1 h, fun _ => rfl, fun h => f3 h, fun h => f4 h, fun h => f5 h, fun h => f6 h, fun h => f7 h, fun h => f8 h, fun h => f9 h, fun h => f10 h, fun h => f11 h, fun h => f12 h, fun h => f13 h, fun h => f14 h, fun h => f15 h, fun h => f16 h, fun h => f17 h, fun h => f18 h, fun h => f19 h, fun h => f20 h, fun h => f21 h, fun h => f22 h, fun h => f23 h, fun h => f24 h, fun h => f25 h, fun h => f26 h, fun h => f27 h, fun h => f28 h, fun h => f29 h, fun h => f30 h⟩
              ·intro L x a wR K hL hd hf hx hΦ hK
               obtain ⟨hI, f0, f1, f2, f3, f4, f5, f6, f7, f8, f9, f10, f11, f12, f13, f14, f15, f16, f17, f18, f19, f20, f21, f22, f23, f24, f25, f26, f27, f28, f29, f30⟩ := hΦ
               refine ⟨fun _ => ?_, fun h => absurd h (by rw [Go.RE.wanted_none rfl]; decide)⟩
               have d2 := f2 (hd 2 (by kernel_rfl))
               have e109 : a.tmps[109]? = some (x 109) := hx 2 _ 109 rfl rfl (hd 2 (by kernel_rfl))
               rw [d2] at e109
               have e1 := HAB.out
               clear hf hx hd
               go_simp
               refine hK _ _ ?_
               exact ⟨hI, fun h => f0 h, fun h => f1 h, fun h => f2 h, fun _ => rfl, fun h => f4 h, fun h => f5 h, fun h => f6 h, fun h => f7 h, fun h => f8 h, fun h => f9 h, fun h => f10 h, fun h => f11 h, fun h => f12 h, fun h => f13 h, fun h => f14 h, fun h => f15 h, fun h => f16 h, fun h => f17 h, fun h => f18 h, fun h => f19 h, fun h => f20 h, fun h => f21 h, fun h => f22 h, fun h => f23 h, fun h => f24 h, fun h => f25 h, fun h => f26 h, fun h => f27 h, fun h => f28 h, fun h => f29 h, fun h => f30 h⟩
              ·intro L x a wR K hL hd hf hx hΦ hK
               obtain ⟨hI, f0, f1, f2, f3, f4, f5, f6, f7, f8, f9, f10, f11, f12, f13, f14, f15, f16, f17, f18, f19, f20, f21, f22, f23, f24, f25, f26, f27, f28, f29, f30⟩ := hΦ
               refine ⟨fun _ => ?_, fun h => absurd h (by rw [Go.RE.wanted_none rfl]; decide)⟩
               have d3 := f3 (hd 3 (by kernel_rfl))
               have e110 : a.tmps[110]? = some (x 110) := hx 3 _ 110 rfl rfl (hd 3 (by kernel_rfl))
               rw [d3] at e110
               clear hf hx hd
               go_simp
               refine hK _ _ ?_
               exact ⟨hI, fun h => f0 h, fun h => f1 h, fun h => f2 h, fun h => f3 h, fun _ => rfl, fun h => f5 h, fun h => f6 h, fun h => f7 h, fun h => f8 h, fun h => f9 h, fun h => f10 h, fun h => f11 h, fun h => f12 h, fun h => f13 h, fun h => f14 h, fun h => f15 h, fun h => f16 h, fun h => f17 h, fun h => f18 h, fun h => f19 h, fun h => f20 h, fun h => f21 h, fun h => f22 h, fun h => f23 h, fun h => f24 h, fun h => f25 h, fun h => f26 h, fun h => f27 h, fun h => f28 h, fun h => f29 h, fun h => f30 h⟩
              ·intro L x a wR K hL hd hf hx hΦ hK
               obtain ⟨hI, f0, f1, f2, f3, f4, f5, f6, f7, f8, f9, f10, f11, f12, f13, f14, f15, f16, f17, f18, f19, f20, f21, f22, f23, f24, f25, f26, f27, f28, f29, f30⟩ := hΦ
               refine ⟨fun _ => ?_, fun h => absurd h (by rw [Go.RE.wanted_none rfl]; decide)⟩
               have d4 := f4 (hd 4 (by kernel_rfl))
               have e111 : a.tmps[111]? = some (x 111) := hx 4 _ 111 rfl rfl (hd 4 (by kernel_rfl))
               rw [d4] at e111
               clear hf hx hd
               go_simp
               refine hK _ _ ?_
               exact ⟨hI, fun h => f0 h, fun h => f1 h, fun h => f2 h, fun h => f3 h, fun h => f4 h, fun _ => rfl, fun h => f6 h, fun h => f7 h, fun h => f8 h, fun h => f9 h, fun h => f10 h, fun h => f11 h, fun h => f12 h, fun h => f13 h, fun h => f14 h, fun h => f15 h, fun h => f16 h, fun h => f17 h, fun h => f18 h, fun h => f19 h, fun h => f20 h, fun h => f21 h, fun h => f22 h, fun h => f23 h, fun h => f24 h, fun h => f25 h, fun h => f26 h, fun h => f27 h, fun h => f28 h, fun h => f29 h, fun h => f30 h⟩
              ·intro L x a wR K hL hd hf hx hΦ hK
               obtain ⟨hI, f0, f1, f2, f3, f4, f5, f6, f7, f8, f9, f10, f11, f12, f13, f14, f15, f16, f17, f18, f19, f20, f21, f22, f23, f24, f25, f26, f27, f28, f29, f30⟩ := hΦ
               have g5 := f5 (hd 5 (by kernel_rfl))
               have ge : a.tmps[112]? = some (x 112) := hx 5 _ 112 rfl rfl (hd 5 (by kernel_rfl))
               rw [g5] at ge
               refine ⟨fun h => absurd h (by rw [Go.RE.wanted_of rfl (Go.RE.yielded_of rfl rfl ge)]; decide), fun _ => ?_⟩
               refine hK undef _ ?_
               exact ⟨hI, fun h => f0 h, fun h => f1 h, fun h => f2 h, fun h => f3 h, fun h => f4 h, fun h => f5 h, fun _ => rfl, fun h => f7 h, fun h => f8 h, fun h => f9 h, fun h => f10 h, fun h => f11 h, fun h => f12 h, fun h => f13 h, fun h => f14 h, fun h => f15 h, fun h => f16 h, fun h => f17 h, fun h => f18 h, fun h => f19 h, fun h => f20 h, fun h => f21 h, fun h => f22 h, fun h => f23 h, fun h => f24 h, fun h => f25 h, fun h => f26 h, fun h => f27 h, fun h => f28 h, fun h => f29 h, fun h => f30 h⟩
              ·intro L x a wR K hL hd hf hx hΦ hK
               obtain ⟨hI, f0, f1, f2, f3, f4, f5, f6, f7, f8, f9, f10, f11, f12, f13, f14, f15, f16, f17, f18, f19, f20, f21, f22, f23, f24, f25, f26, f27, f28, f29, f30⟩ := hΦ
               have g5 := f5 (hd 5 (by kernel_rfl))
               have ge : a.tmps[112]? = some (x 112) := hx 5 _ 112 rfl rfl (hd 5 (by kernel_rfl))
               rw [g5] at ge
               refine ⟨fun h => absurd h (by rw [Go.RE.wanted_of rfl (Go.RE.yielded_of rfl rfl ge)]; decide), fun _ => ?_⟩
               refine hK undef _ ?_
               exact ⟨hI, fun h => f0 h, fun h => f1 h, fun h => f2 h, fun h => f3 h, fun h => f4 h, fun h => f5 h, fun h => f6 h, fun _ => rfl, fun h => f8 h, fun h => f9 h, fun h => f10 h, fun h => f11 h, fun h => f12 h, fun h => f13 h, fun h => f14 h, fun h => f15 h, fun h => f16 h, fun h => f17 h, fun h => f18 h, fun h => f19 h, fun h => f20 h, fun h => f21 h, fun h => f22 h, fun h => f23 h, fun h => f24 h, fun h => f25 h, fun h => f26 h, fun h => f27 h, fun h => f28 h, fun h => f29 h, fun h => f30 h⟩
              ·intro L x a wR K hL hd hf hx hΦ hK
               obtain ⟨hI, f0, f1, f2, f3, f4, f5, f6, f7, f8, f9, f10, f11, f12, f13, f14, f15, f16, f17, f18, f19, f20, f21, f22, f23, f24, f25, f26, f27, f28, f29, f30⟩ := hΦ
               have g5 := f5 (hd 5 (by kernel_rfl))
               have ge : a.tmps[112]? = some (x 112) := hx 5 _ 112 rfl rfl (hd 5 (by kernel_rfl))
               rw [g5] at ge
               refine ⟨fun h => absurd h (by rw [Go.RE.wanted_of rfl (Go.RE.yielded_of rfl rfl ge)]; decide), fun _ => ?_⟩
               refine hK undef _ ?_
               exact ⟨hI, fun h => f0 h, fun h => f1 h, fun h => f2 h, fun h => f3 h, fun h => f4 h, fun h => f5 h, fun h => f6 h, fun h => f7 h, fun _ => rfl, fun h => f9 h, fun h => f10 h, fun h => f11 h, fun h => f12 h, fun h => f13 h, fun h => f14 h, fun h => f15 h, fun h => f16 h, fun h => f17 h, fun h => f18 h, fun h => f19 h, fun h => f20 h, fun h => f21 h, fun h => f22 h, fun h => f23 h, fun h => f24 h, fun h => f25 h, fun h => f26 h, fun h => f27 h, fun h => f28 h, fun h => f29 h, fun h => f30 h⟩
              ·intro L x a wR K hL hd hf hx hΦ hK
               obtain ⟨hI, f0, f1, f2, f3, f4, f5, f6, f7, f8, f9, f10, f11, f12, f13, f14, f15, f16, f17, f18, f19, f20, f21, f22, f23, f24, f25, f26, f27, f28, f29, f30⟩ := hΦ
               have g5 := f5 (hd 5 (by kernel_rfl))
               have ge : a.tmps[112]? = some (x 112) := hx 5 _ 112 rfl rfl (hd 5 (by kernel_rfl))
               rw [g5] at ge
               refine ⟨fun h => absurd h (by rw [Go.RE.wanted_of rfl (Go.RE.yielded_of rfl rfl ge)]; decide), fun _ => ?_⟩
               refine hK undef _ ?_
               exact ⟨hI, fun h => f0 h, fun h => f1 h, fun h => f2 h, fun h => f3 h, fun h => f4 h, fun h => f5 h, fun h => f6 h, fun h => f7 h, fun h => f8 h, fun _ => rfl, fun h => f10 h, fun h => f11 h, fun h => f12 h, fun h => f13 h, fun h => f14 h, fun h => f15 h, fun h => f16 h, fun h => f17 h, fun h => f18 h, fun h => f19 h, fun h => f20 h, fun h => f21 h, fun h => f22 h, fun h => f23 h, fun h => f24 h, fun h => f25 h, fun h => f26 h, fun h => f27 h, fun h => f28 h, fun h => f29 h, fun h => f30 h⟩
              ·intro L x a wR K hL hd hf hx hΦ hK
               obtain ⟨hI, f0, f1, f2, f3, f4, f5, f6, f7, f8, f9, f10, f11, f12, f13, f14, f15, f16, f17, f18, f19, f20, f21, f22, f23, f24, f25, f26, f27, f28, f29, f30⟩ := hΦ
               have g5 := f5 (hd 5 (by kernel_rfl))
               have ge : a.tmps[112]? = some (x 112) := hx 5 _ 112 rfl rfl (hd 5 (by kernel_rfl))
               rw [g5] at ge
               refine ⟨fun h => absurd h (by rw [Go.RE.wanted_of rfl (Go.RE.yielded_of rfl rfl ge)]; decide), fun _ => ?_⟩
               refine hK undef _ ?_
               exact ⟨hI, fun h => f0 h, fun h => f1 h, fun h => f2 h, fun h => f3 h, fun h => f4 h, fun h => f5 h, fun h => f6 h, fun h => f7 h, fun h => f8 h, fun h => f9 h, fun _ => rfl, fun h => f11 h, fun h => f12 h, fun h => f13 h, fun h => f14 h, fun h => f15 h, fun h => f16 h, fun h => f17 h, fun h => f18 h, fun h => f19 h, fun h => f20 h, fun h => f21 h, fun h => f22 h, fun h => f23 h, fun h => f24 h, fun h => f25 h, fun h => f26 h, fun h => f27 h, fun h => f28 h, fun h => f29 h, fun h => f30 h⟩
              ·intro L x a wR K hL hd hf hx hΦ hK
               obtain ⟨hI, f0, f1, f2, f3, f4, f5, f6, f7, f8, f9, f10, f11, f12, f13, f14, f15, f16, f17, f18, f19, f20, f21, f22, f23, f24, f25, f26, f27, f28, f29, f30⟩ := hΦ
               have g5 := f5 (hd 5 (by kernel_rfl))
               have ge : a.tmps[112]? = some (x 112) := hx 5 _ 112 rfl rfl (hd 5 (by kernel_rfl))
               rw [g5] at ge
               refine ⟨fun h => absurd h (by rw [Go.RE.wanted_of rfl (Go.RE.yielded_of rfl rfl ge)]; decide), fun _ => ?_⟩
               refine hK undef _ ?_
               exact ⟨hI, fun h => f0 h, fun h => f1 h, fun h => f2 h, fun h => f3 h, fun h => f4 h, fun h => f5 h, fun h => f6 h, fun h => f7 h, fun h => f8 h, fun h => f9 h, fun h => f10 h, fun _ => rfl, fun h => f12 h, fun h => f13 h, fun h => f14 h, fun h => f15 h, fun h => f16 h, fun h => f17 h, fun h => f18 h, fun h => f19 h, fun h => f20 h, fun h => f21 h, fun h => f22 h, fun h => f23 h, fun h => f24 h, fun h => f25 h, fun h => f26 h, fun h => f27 h, fun h => f28 h, fun h => f29 h, fun h => f30 h⟩
              ·intro L x a wR K hL hd hf hx hΦ hK
               obtain ⟨hI, f0, f1, f2, f3, f4, f5, f6, f7, f8, f9, f10, f11, f12, f13, f14, f15, f16, f17, f18, f19, f20, f21, f22, f23, f24, f25, f26, f27, f28, f29, f30⟩ := hΦ
               have g5 := f5 (hd 5 (by kernel_rfl))
               have ge : a.tmps[112]? = some (x 112) := hx 5 _ 112 rfl rfl (hd 5 (by kernel_rfl))
               rw [g5] at ge
               refine ⟨fun h => absurd h (by rw [Go.RE.wanted_of rfl (Go.RE.yielded_of rfl rfl ge)]; decide), fun _ => ?_⟩
               refine hK undef _ ?_
               exact ⟨hI, fun h => f0 h, fun h => f1 h, fun h => f2 h, fun h => f3 h, fun h => f4 h, fun h => f5 h, fun h => f6 h, fun h => f7 h, fun h => f8 h, fun h => f9 h, fun h => f10 h, fun h => f11 h, fun _ => rfl, fun h => f13 h, fun h => f14 h, fun h => f15 h, fun h => f16 h, fun h => f17 h, fun h => f18 h, fun h => f19 h, fun h => f20 h, fun h => f21 h, fun h => f22 h, fun h => f23 h, fun h => f24 h, fun h => f25 h, fun h => f26 h, fun h => f27 h, fun h => f28 h, fun h => f29 h, fun h => f30 h⟩
              ·intro L x a wR K hL hd hf hx hΦ hK
               obtain ⟨hI, f0, f1, f2, f3, f4, f5, f6, f7, f8, f9, f10, f11, f12, f13, f14, f15, f16, f17, f18, f19, f20, f21, f22, f23, f24, f25, f26, f27, f28, f29, f30⟩ := hΦ
               have g5 := f5 (hd 5 (by kernel_rfl))
               have ge : a.tmps[112]? = some (x 112) := hx 5 _ 112 rfl rfl (hd 5 (by kernel_rfl))
               rw [g5] at ge
               refine ⟨fun h => absurd h (by rw [Go.RE.wanted_of rfl (Go.RE.yielded_of rfl rfl ge)]; decide), fun _ => ?_⟩
               refine hK undef _ ?_
               exact ⟨hI, fun h => f0 h, fun h => f1 h, fun h => f2 h, fun h => f3 h, fun h => f4 h, fun h => f5 h, fun h => f6 h, fun h => f7 h, fun h => f8 h, fun h => f9 h, fun h => f10 h, fun h => f11 h, fun h => f12 h, fun _ => rfl, fun h => f14 h, fun h => f15 h, fun h => f16 h, fun h => f17 h, fun h => f18 h, fun h => f19 h, fun h => f20 h, fun h => f21 h, fun h => f22 h, fun h => f23 h, fun h => f24 h, fun h => f25 h, fun h => f26 h, fun h => f27 h, fun h => f28 h, fun h => f29 h, fun h => f30 h⟩
              ·intro L x a wR K hL hd hf hx hΦ hK
               obtain ⟨hI, f0, f1, f2, f3, f4, f5, f6, f7, f8, f9, f10, f11, f12, f13, f14, f15, f16, f17, f18, f19, f20, f21, f22, f23, f24, f25, f26, f27, f28, f29, f30⟩ := hΦ
               refine ⟨fun _ => ?_, fun h => absurd h (by rw [Go.RE.wanted_none rfl]; decide)⟩
               have d5 := f5 (hd 5 (by kernel_rfl))
               have e112 : a.tmps[112]? = some (x 112) := hx 5 _ 112 rfl rfl (hd 5 (by kernel_rfl))
               rw [d5] at e112
               have d13 := f13 (hd 13 (by kernel_rfl))
               have e120 : a.tmps[120]? = some (x 120) := hx 13 _ 120 rfl rfl (hd 13 (by kernel_rfl))
               rw [d13] at e120
               clear hf hx hd
               go_simp
               refine hK _ _ ?_
               exact ⟨hI, fun h => f0 h, fun h => f1 h, fun h => f2 h, fun h => f3 h, fun h => f4 h, fun h => f5 h, fun h => f6 h, fun h => f7 h, fun h => f8 h, fun h => f9 h, fun h => f10 h, fun h => f11 h, fun h => f12 h, fun h => f13 h, fun _ => rfl, fun h => f15 h, fun h => f16 h, fun h => f17 h, fun h => f18 h, fun h => f19 h, fun h => f20 h, fun h => f21 h, fun h => f22 h, fun h => f23 h, fun h => f24 h, fun h => f25 h, fun h => f26 h, fun h => f27 h, fun h => f28 h, fun h => f29 h, fun h => f30 h⟩
              ·intro L x a wR K hL hd hf hx hΦ hK
               obtain ⟨hI, f0, f1, f2, f3, f4, f5, f6, f7, f8, f9, f10, f11, f12, f13, f14, f15, f16, f17, f18, f19, f20, f21, f22, f23, f24, f25, f26, f27, f28, f29, f30⟩ := hΦ
               refine ⟨fun _ => ?_, fun h => absurd h (by rw [Go.RE.wanted_none rfl]; decide)⟩
               have d14 := f14 (hd 14 (by kernel_rfl))
               have e121 : a.tmps[121]? = some (x 121) := hx 14 _ 121 rfl rfl (hd 14 (by kernel_rfl))
               rw [d14] at e121
               clear hf hx hd
               go_simp
               refine hK _ _ ?_
               exact ⟨hI, fun h => f0 h, fun h => f1 h, fun h => f2 h, fun h => f3 h, fun h => f4 h, fun h => f5 h, fun h => f6 h, fun h => f7 h, fun h => f8 h, fun h => f9 h, fun h => f10 h, fun h => f11 h, fun h => f12 h, fun h => f13 h, fun h => f14 h, fun _ => rfl, fun h => f16 h, fun h => f17 h, fun h => f18 h, fun h => f19 h, fun h => f20 h, fun h => f21 h, fun h => f22 h, fun h => f23 h, fun h => f24 h, fun h => f25 h, fun h => f26 h, fun h => f27 h, fun h => f28 h, fun h => f29 h, fun h => f30 h⟩
              ·intro L x a wR K hL hd hf hx hΦ hK
               obtain ⟨hI, f0, f1, f2, f3, f4, f5, f6, f7, f8, f9, f10, f11, f12, f13, f14, f15, f16, f17, f18, f19, f20, f21, f22, f23, f24, f25, f26, f27, f28, f29, f30⟩ := hΦ
               have g15 := f15 (hd 15 (by kernel_rfl))
               have ge : a.tmps[122]? = some (x 122) := hx 15 _ 122 rfl rfl (hd 15 (by kernel_rfl))
               rw [g15] at ge
               refine ⟨fun _ => ?_, fun h => absurd h (by rw [Go.RE.wanted_of rfl (Go.RE.yielded_of rfl rfl ge)]; decide)⟩
               have e12 : a.tmps[12]? = some (.int .i64 (vb : Int)) := hf 12 (of_decide_eq_true (by kernel_rfl))
               clear hf hx hd
               go_simp
               refine hK _ _ ?_
               exact ⟨hI, fun h => f0 h, fun h => f1 h, fun h => f2 h, fun h => f3 h, fun h => f4 h, fun h => f5 h, fun h => f6 h, fun h => f7 h, fun h => f8 h, fun h => f9 h, fun h => f10 h, fun h => f11 h, fun h => f12 h, fun h => f13 h, fun h => f14 h, fun h => f15 h, fun _ => rfl, fun h => f17 h, fun h => f18 h, fun h => f19 h, fun h => f20 h, fun h => f21 h, fun h => f22 h, fun h => f23 h, fun h => f24 h, fun h => f25 h, fun h => f26 h, fun h => f27 h, fun h => f28 h, fun h => f29 h, fun h => f30 h⟩
              ·intro L x a wR K hL hd hf hx hΦ hK
               obtain ⟨hI, f0, f1, f2, f3, f4, f5, f6, f7, f8, f9, f10, f11, f12, f13, f14, f15, f16, f17, f18, f19, f20, f21, f22, f23, f24, f25, f26, f27, f28, f29, f30⟩ := hΦ
               have g15 := f15 (hd 15 (by kernel_rfl))
               have ge : a.tmps[122]? = some (x 122) := hx 15 _ 122 rfl rfl (hd 15 (by kernel_rfl))
               rw [g15] at ge
               refine ⟨fun _ => ?_, fun h => absurd h (by rw [Go.RE.wanted_of rfl (Go.RE.yielded_of rfl rfl ge)]; decide)⟩
               have e18 : a.tmps[18]? = some (.int .i64 (k : Int)) := hf 18 (of_decide_eq_true (by kernel_rfl))
               clear hf hx hd
               go_simp
               refine hK _ _ ?_
               exact ⟨hI, fun h => f0 h, fun h => f1 h, fun h => f2 h, fun h => f3 h, fun h => f4 h, fun h => f5 h, fun h => f6 h, fun h => f7 h, fun h => f8 h, fun h => f9 h, fun h => f10 h, fun h => f11 h, fun h => f12 h, fun h => f13 h, fun h => f14 h, fun h => f15 h, fun h => f16 h, fun _ => rfl, fun h => f18 h, fun h => f19 h, fun h => f20 h, fun h => f21 h, fun h => f22 h, fun h => f23 h, fun h => f24 h, fun h => f25 h, fun h => f26 h, fun h => f27 h, fun h => f28 h, fun h => f29 h, fun h => f30 h⟩
              ·intro L x a wR K hL hd hf hx hΦ hK
               obtain ⟨hI, f0, f1, f2, f3, f4, f5, f6, f7, f8, f9, f10, f11, f12, f13, f14, f15, f16, f17, f18, f19, f20, f21, f22, f23, f24, f25, f26, f27, f28, f29, f30⟩ := hΦ
               have g15 := f15 (hd 15 (by kernel_rfl))
               have ge : a.tmps[122]? = some (x 122) := hx 15 _ 122 rfl rfl (hd 15 (by kernel_rfl))
               rw [g15] at ge
               refine ⟨fun _ => ?_, fun h => absurd h (by rw [Go.RE.wanted_of rfl (Go.RE.yielded_of rfl rfl ge)]; decide)⟩
               have d16 := f16 (hd 16 (by kernel_rfl))
               have e123 : a.tmps[123]? = some (x 123) := hx 16 _ 123 rfl rfl (hd 16 (by kernel_rfl))
               rw [d16] at e123
               have d17 := f17 (hd 17 (by kernel_rfl))
               have e124 : a.tmps[124]? = some (x 124) := hx 17 _ 124 rfl rfl (hd 17 (by kernel_rfl))
               rw [d17] at e124
               have sh1 := HSH.out.2
               have hmin := HMN.out
               have b0 := HK0.out
               clear hf hx hd
               go_simp
               refine hK _ _ ?_
               exact ⟨hI, fun h => f0 h, fun h => f1 h, fun h => f2 h, fun h => f3 h, fun h => f4 h, fun h => f5 h, fun h => f6 h, fun h => f7 h, fun h => f8 h, fun h => f9 h, fun h => f10 h, fun h => f11 h, fun h => f12 h, fun h => f13 h, fun h => f14 h, fun h => f15 h, fun h => f16 h, fun h => f17 h, fun _ => rfl, fun h => f19 h, fun h => f20 h, fun h => f21 h, fun h => f22 h, fun h => f23 h, fun h => f24 h, fun h => f25 h, fun h => f26 h, fun h => f27 h, fun h => f28 h, fun h => f29 h, fun h => f30 h⟩
              ·intro L x a wR K hL hd hf hx hΦ hK
               obtain ⟨hI, f0, f1, f2, f3, f4, f5, f6, f7, f8, f9, f10, f11, f12, f13, f14, f15, f16, f17, f18, f19, f20, f21, f22, f23, f24, f25, f26, f27, f28, f29, f30⟩ := hΦ
               have g15 := f15 (hd 15 (by kernel_rfl))
               have ge : a.tmps[122]? = some (x 122) := hx 15 _ 122 rfl rfl (hd 15 (by kernel_rfl))
               rw [g15] at ge
               refine ⟨fun _ => ?_, fun h => absurd h (by rw [Go.RE.wanted_of rfl (Go.RE.yielded_of rfl rfl ge)]; decide)⟩
               have d18 := f18 (hd 18 (by kernel_rfl))
               have e125 : a.tmps[125]? = some (x 125) := hx 18 _ 125 rfl rfl (hd 18 (by kernel_rfl))
               rw [d18] at e125
               have e1 := HBB.out
               clear hf hx hd
               go_simp
               refine hK _ _ ?_
               exact ⟨hI, fun h => f0 h, fun h => f1 h, fun h => f2 h, fun h => f3 h, fun h => f4 h, fun h => f5 h, fun h => f6 h, fun h => f7 h, fun h => f8 h, fun h => f9 h, fun h => f10 h, fun h => f11 h, fun h => f12 h, fun h => f13 h, fun h => f14 h, fun h => f15 h, fun h => f16 h, fun h => f17 h, fun h => f18 h, fun _ => rfl, fun h => f20 h, fun h => f21 h, fun h => f22 h, fun h => f23 h, fun h => f24 h, fun h => f25 h, fun h => f26 h, fun h => f27 h, fun h => f28 h, fun h => f29 h, fun h => f30 h⟩
              ·intro L x a wR K hL hd hf hx hΦ hK
               obtain ⟨hI, f0, f1, f2, f3, f4, f5, f6, f7, f8, f9, f10, f11, f12, f13, f14, f15, f16, f17, f18, f19, f20, f21, f22, f23, f24, f25, f26, f27, f28, f29, f30⟩ := hΦ
               have g15 := f15 (hd 15 (by kernel_rfl))
               have ge : a.tmps[122]? = some (x 122) := hx 15 _ 122 rfl rfl (hd 15 (by kernel_rfl))
               rw [g15] at ge
               refine ⟨fun _ => ?_, fun h => absurd h (by rw [Go.RE.wanted_of rfl (Go.RE.yielded_of rfl rfl ge)]; decide)⟩
               have d19 := f19 (hd 19 (by kernel_rfl))
               have e126 : a.tmps[126]? = some (x 126) := hx 19 _ 126 rfl rfl (hd 19 (by kernel_rfl))
               rw [d19] at e126
               clear hf hx hd
               go_simp
               refine hK _ _ ?_
               exact ⟨hI, fun h => f0 h, fun h => f1 h, fun h => f2 h, fun h => f3 h, fun h => f4 h, fun h => f5 h, fun h => f6 h, fun h => f7 h, fun h => f8 h, fun h => f9 h, fun h => f10 h, fun h => f11 h, fun h => f12 h, fun h => f13 h, fun h => f14 h, fun h => f15 h, fun h => f16 h, fun h => f17 h, fun h => f18 h, fun h => f19 h, fun _ => rfl, fun h => f21 h, fun h => f22 h, fun h => f23 h, fun h => f24 h, fun h => f25 h, fun h => f26 h, fun h => f27 h, fun h => f28 h, fun h => f29 h, fun h => f30 h⟩
              ·intro L x a wR K hL hd hf hx hΦ hK
               obtain ⟨hI, f0, f1, f2, f3, f4, f5, f6, f7, f8, f9, f10, f11, f12, f13, f14, f15, f16, f17, f18, f19, f20, f21, f22, f23, f24, f25, f26, f27, f28, f29, f30⟩ := hΦ
               have g15 := f15 (hd 15 (by kernel_rfl))
               have ge : a.tmps[122]? = some (x 122) := hx 15 _ 122 rfl rfl (hd 15 (by kernel_rfl))
               rw [g15] at ge
               refine ⟨fun _ => ?_, fun h => absurd h (by rw [Go.RE.wanted_of rfl (Go.RE.yielded_of rfl rfl ge)]; decide)⟩
               have e7 : a.tmps[7]? = some (.pointer (some ⟨B7, 0, none⟩)) := hf 7 (of_decide_eq_true (by kernel_rfl))
               clear hf hx hd
               go_simp
               refine hK _ _ ?_
               exact ⟨hI, fun h => f0 h, fun h => f1 h, fun h => f2 h, fun h => f3 h, fun h => f4 h, fun h => f5 h, fun h => f6 h, fun h => f7 h, fun h => f8 h, fun h => f9 h, fun h => f10 h, fun h => f11 h, fun h => f12 h, fun h => f13 h, fun h => f14 h, fun h => f15 h, fun h => f16 h, fun h => f17 h, fun h => f18 h, fun h => f19 h, fun h => f20 h, fun _ => rfl, fun h => f22 h, fun h => f23 h, fun h => f24 h, fun h => f25 h, fun h => f26 h, fun h => f27 h, fun h => f28 h, fun h => f29 h, fun h => f30 h⟩
              ·intro L x a wR K hL hd hf hx hΦ hK
               obtain ⟨hI, f0, f1, f2, f3, f4, f5, f6, f7, f8, f9, f10, f11, f12, f13, f14, f15, f16, f17, f18, f19, f20, f21, f22, f23, f24, f25, f26, f27, f28, f29, f30⟩ := hΦ
               have g15 := f15 (hd 15 (by kernel_rfl))
               have ge : a.tmps[122]? = some (x 122) := hx 15 _ 122 rfl rfl (hd 15 (by kernel_rfl))
               rw [g15] at ge
               refine ⟨fun _ => ?_, fun h => absurd h (by rw [Go.RE.wanted_of rfl (Go.RE.yielded_of rfl rfl ge)]; decide)⟩
               have d21 := f21 (hd 21 (by kernel_rfl))
               have e128 : a.tmps[128]? = some (x 128) := hx 21 _ 128 rfl rfl (hd 21 (by kernel_rfl))
               rw [d21] at e128
               have c := HM2.out _ hI
               clear hf hx hd
               go_simp
               refine hK _ _ ?_
               exact ⟨hI, fun h => f0 h, fun h => f1 h, fun h => f2 h, fun h => f3 h, fun h => f4 h, fun h => f5 h, fun h => f6 h, fun h => f7 h, fun h => f8 h, fun h => f9 h, fun h => f10 h, fun h => f11 h, fun h => f12 h, fun h => f13 h, fun h => f14 h, fun h => f15 h, fun h => f16 h, fun h => f17 h, fun h => f18 h, fun h => f19 h, fun h => f20 h, fun h => f21 h, fun _ => rfl, fun h => f23 h, fun h => f24 h, fun h => f25 h, fun h => f26 h, fun h => f27 h, fun h => f28 h, fun h => f29 h, fun h => f30 h⟩
              ·intro L x a wR K hL hd hf hx hΦ hK
               obtain ⟨hI, f0, f1, f2, f3, f4, f5, f6, f7, f8, f9, f10, f11, f12, f13, f14, f15, f16, f17, f18, f19, f20, f21, f22, f23, f24, f25, f26, f27, f28, f29, f30⟩ := hΦ
               have g15 := f15 (hd 15 (by kernel_rfl))
               have ge : a.tmps[122]? = some (x 122) := hx 15 _ 122 rfl rfl (hd 15 (by kernel_rfl))
               rw [g15] at ge
               refine ⟨fun _ => ?_, fun h => absurd h (by rw [Go.RE.wanted_of rfl (Go.RE.yielded_of rfl rfl ge)]; decide)⟩
               have e18 : a.tmps[18]? = some (.int .i64 (k : Int)) := hf 18 (of_decide_eq_true (by kernel_rfl))
               clear hf hx hd
               go_simp
               refine hK _ _ ?_
               exact ⟨hI, fun h => f0 h, fun h => f1 h, fun h => f2 h, fun h => f3 h, fun h => f4 h, fun h => f5 h, fun h => f6 h, fun h => f7 h, fun h => f8 h, fun h => f9 h, fun h => f10 h, fun h => f11 h, fun h => f12 h, fun h => f13 h, fun h => f14 h, fun h => f15 h, fun h => f16 h, fun h => f17 h, fun h => f18 h, fun h => f19 h, fun h => f20 h, fun h => f21 h, fun h => f22 h, fun _ => rfl, fun h => f24 h, fun h => f25 h, fun h => f26 h, fun h => f27 h, fun h => f28 h, fun h => f29 h, fun h => f30 h⟩
              ·intro L x a wR K hL hd hf hx hΦ hK
               obtain ⟨hI, f0, f1, f2, f3, f4, f5, f6, f7, f8, f9, f10, f11, f12, f13, f14, f15, f16, f17, f18, f19, f20, f21, f22, f23, f24, f25, f26, f27, f28, f29, f30⟩ := hΦ
               have g15 := f15 (hd 15 (by kernel_rfl))
               have ge : a.tmps[122]? = some (x 122) := hx 15 _ 122 rfl rfl (hd 15 (by kernel_rfl))
               rw [g15] at ge
               refine ⟨fun _ => ?_, fun h => absurd h (by rw [Go.RE.wanted_of rfl (Go.RE.yielded_of rfl rfl ge)]; decide)⟩
               have d22 := f22 (hd 22 (by kernel_rfl))
               have e129 : a.tmps[129]? = some (x 129) := hx 22 _ 129 rfl rfl (hd 22 (by kernel_rfl))
               rw [d22] at e129
               have d23 := f23 (hd 23 (by kernel_rfl))
               have e130 : a.tmps[130]? = some (x 130) := hx 23 _ 130 rfl rfl (hd 23 (by kernel_rfl))
               rw [d23] at e130
               have l1 := HK0.out
               have l2 := HK1.out
               clear hf hx hd
               go_simp
               refine hK _ _ ?_
               exact ⟨hI, fun h => f0 h, fun h => f1 h, fun h => f2 h, fun h => f3 h, fun h => f4 h, fun h => f5 h, fun h => f6 h, fun h => f7 h, fun h => f8 h, fun h => f9 h, fun h => f10 h, fun h => f11 h, fun h => f12 h, fun h => f13 h, fun h => f14 h, fun h => f15 h, fun h => f16 h, fun h => f17 h, fun h => f18 h, fun h => f19 h, fun h => f20 h, fun h => f21 h, fun h => f22 h, fun h => f23 h, fun _ => rfl, fun h => f25 h, fun h => f26 h, fun h => f27 h, fun h => f28 h, fun h => f29 h, fun h => f30 h⟩
              ·intro L x a wR K hL hd hf hx hΦ hK
               obtain ⟨hI, f0, f1, f2, f3, f4, f5, f6, f7, f8, f9, f10, f11, f12, f13, f14, f15, f16, f17, f18, f19, f20, f21, f22, f23, f24, f25, f26, f27, f28, f29, f30⟩ := hΦ
               have g15 := f15 (hd 15 (by kernel_rfl))
               have ge : a.tmps[122]? = some (x 122) := hx 15 _ 122 rfl rfl (hd 15 (by kernel_rfl))
               rw [g15] at ge
               refine ⟨fun _ => ?_, fun h => absurd h (by rw [Go.RE.wanted_of rfl (Go.RE.yielded_of rfl rfl ge)]; decide)⟩
               have d24 := f24 (hd 24 (by kernel_rfl))
               have e131 : a.tmps[131]? = some (x 131) := hx 24 _ 131 rfl rfl (hd 24 (by kernel_rfl))
               rw [d24] at e131
               have c := HRK.out _ hI
               clear hf hx hd
               go_simp
               refine hK _ _ ?_
               exact ⟨hI, fun h => f0 h, fun h => f1 h, fun h => f2 h, fun h => f3 h, fun h => f4 h, fun h => f5 h, fun h => f6 h, fun h => f7 h, fun h => f8 h, fun h => f9 h, fun h => f10 h, fun h => f11 h, fun h => f12 h, fun h => f13 h, fun h => f14 h, fun h => f15 h, fun h => f16 h, fun h => f17 h, fun h => f18 h, fun h => f19 h, fun h => f20 h, fun h => f21 h, fun h => f22 h, fun h => f23 h, fun h => f24 h, fun _ => rfl, fun h => f26 h, fun h => f27 h, fun h => f28 h, fun h => f29 h, fun h => f30 h⟩
              ·intro L x a wR K hL hd hf hx hΦ hK
               obtain ⟨hI, f0, f1, f2, f3, f4, f5, f6, f7, f8, f9, f10, f11, f12, f13, f14, f15, f16, f17, f18, f19, f20, f21, f22, f23, f24, f25, f26, f27, f28, f29, f30⟩ := hΦ
               have g15 := f15 (hd 15 (by kernel_rfl))
               have ge : a.tmps[122]? = some (x 122) := hx 15 _ 122 rfl rfl (hd 15 (by kernel_rfl))
               rw [g15] at ge
               refine ⟨fun _ => ?_, fun h => absurd h (by rw [Go.RE.wanted_of rfl (Go.RE.yielded_of rfl rfl ge)]; decide)⟩
               have e10 : a.tmps[10]? = some (.int .i64 (va : Int)) := hf 10 (of_decide_eq_true (by kernel_rfl))
               clear hf hx hd
               go_simp
               refine hK _ _ ?_
               exact ⟨hI, fun h => f0 h, fun h => f1 h, fun h => f2 h, fun h => f3 h, fun h => f4 h, fun h => f5 h, fun h => f6 h, fun h => f7 h, fun h => f8 h, fun h => f9 h, fun h => f10 h, fun h => f11 h, fun h => f12 h, fun h => f13 h, fun h => f14 h, fun h => f15 h, fun h => f16 h, fun h => f17 h, fun h => f18 h, fun h => f19 h, fun h => f20 h, fun h => f21 h, fun h => f22 h, fun h => f23 h, fun h => f24 h, fun h => f25 h, fun _ => rfl, fun h => f27 h, fun h => f28 h, fun h => f29 h, fun h => f30 h⟩
              ·intro L x a wR K hL hd hf hx hΦ hK
               obtain ⟨hI, f0, f1, f2, f3, f4, f5, f6, f7, f8, f9, f10, f11, f12, f13, f14, f15, f16, f17, f18, f19, f20, f21, f22, f23, f24, f25, f26, f27, f28, f29, f30⟩ := hΦ
               have g15 := f15 (hd 15 (by kernel_rfl))
               have ge : a.tmps[122]? = some (x 122) := hx 15 _ 122 rfl rfl (hd 15 (by kernel_rfl))
               rw [g15] at ge
               refine ⟨fun _ => ?_, fun h => absurd h (by rw [Go.RE.wanted_of rfl (Go.RE.yielded_of rfl rfl ge)]; decide)⟩
               have d25 := f25 (hd 25 (by kernel_rfl))
               have e132 : a.tmps[132]? = some (x 132) := hx 25 _ 132 rfl rfl (hd 25 (by kernel_rfl))
               rw [d25] at e132
               have d26 := f26 (hd 26 (by kernel_rfl))
               have e133 : a.tmps[133]? = some (x 133) := hx 26 _ 133 rfl rfl (hd 26 (by kernel_rfl))
               rw [d26] at e133
               have e1 := HRV.out
               clear hf hx hd
               go_simp
               refine hK _ _ ?_
               exact ⟨hI, fun h => f0 h, fun h => f1 h, fun h => f2 h, fun h => f3 h, fun h => f4 h, fun h => f5 h, fun h => f6 h, fun h => f7 h, fun h => f8 h, fun h => f9 h, fun h => f10 h, fun h => f11 h, fun h => f12 h, fun h => f13 h, fun h => f14 h, fun h => f15 h, fun h => f16 h, fun h => f17 h, fun h => f18 h, fun h => f19 h, fun h => f20 h, fun h => f21 h, fun h => f22 h, fun h => f23 h, fun h => f24 h, fun h => f25 h, fun h => f26 h, fun _ => rfl, fun h => f28 h, fun h => f29 h, fun h => f30 h⟩
              ·intro L x a wR K hL hd hf hx hΦ hK
               obtain ⟨hI, f0, f1, f2, f3, f4, f5, f6, f7, f8, f9, f10, f11, f12, f13, f14, f15, f16, f17, f18, f19, f20, f21, f22, f23, f24, f25, f26, f27, f28, f29, f30⟩ := hΦ
               have g15 := f15 (hd 15 (by kernel_rfl))
               have ge : a.tmps[122]? = some (x 122) := hx 15 _ 122 rfl rfl (hd 15 (by kernel_rfl))
               rw [g15] at ge
               refine ⟨fun _ => ?_, fun h => absurd h (by rw [Go.RE.wanted_of rfl (Go.RE.yielded_of rfl rfl ge)]; decide)⟩
               have d27 := f27 (hd 27 (by kernel_rfl))
               have e134 : a.tmps[134]? = some (x 134) := hx 27 _ 134 rfl rfl (hd 27 (by kernel_rfl))
               rw [d27] at e134
               have e1 := HRZ.out
               clear hf hx hd
               go_simp
               refine hK _ _ ?_
               exact ⟨hI, fun h => f0 h, fun h => f1 h, fun h => f2 h, fun h => f3 h, fun h => f4 h, fun h => f5 h, fun h => f6 h, fun h => f7 h, fun h => f8 h, fun h => f9 h, fun h => f10 h, fun h => f11 h, fun h => f12 h, fun h => f13 h, fun h => f14 h, fun h => f15 h, fun h => f16 h, fun h => f17 h, fun h => f18 h, fun h => f19 h, fun h => f20 h, fun h => f21 h, fun h => f22 h, fun h => f23 h, fun h => f24 h, fun h => f25 h, fun h => f26 h, fun h => f27 h, fun _ => rfl, fun h => f29 h, fun h => f30 h⟩
              ·intro L x a wR K hL hd hf hx hΦ hK
               obtain ⟨hI, f0, f1, f2, f3, f4, f5, f6, f7, f8, f9, f10, f11, f12, f13, f14, f15, f16, f17, f18, f19, f20, f21, f22, f23, f24, f25, f26, f27, f28, f29, f30⟩ := hΦ
               have g15 := f15 (hd 15 (by kernel_rfl))
               have ge : a.tmps[122]? = some (x 122) := hx 15 _ 122 rfl rfl (hd 15 (by kernel_rfl))
               rw [g15] at ge
               refine ⟨fun _ => ?_, fun h => absurd h (by rw [Go.RE.wanted_of rfl (Go.RE.yielded_of rfl rfl ge)]; decide)⟩
               have d20 := f20 (hd 20 (by kernel_rfl))
               have e127 : a.tmps[127]? = some (x 127) := hx 20 _ 127 rfl rfl (hd 20 (by kernel_rfl))
               rw [d20] at e127
               have d28 := f28 (hd 28 (by kernel_rfl))
               have e135 : a.tmps[135]? = some (x 135) := hx 28 _ 135 rfl rfl (hd 28 (by kernel_rfl))
               rw [d28] at e135
               clear hf hx hd
               go_simp
               refine hK _ _ ?_
               exact ⟨hI, fun h => f0 h, fun h => f1 h, fun h => f2 h, fun h => f3 h, fun h => f4 h, fun h => f5 h, fun h => f6 h, fun h => f7 h, fun h => f8 h, fun h => f9 h, fun h => f10 h, fun h => f11 h, fun h => f12 h, fun h => f13 h, fun h => f14 h, fun h => f15 h, fun h => f16 h, fun h => f17 h, fun h => f18 h, fun h => f19 h, fun h => f20 h, fun h => f21 h, fun h => f22 h, fun h => f23 h, fun h => f24 h, fun h => f25 h, fun h => f26 h, fun h => f27 h, fun h => f28 h, fun _ => rfl, fun h => f30 h⟩
              ·intro L x a wR K hL hd hf hx hΦ hK
               obtain ⟨hI, f0, f1, f2, f3, f4, f5, f6, f7, f8, f9, f10, f11, f12, f13, f14, f15, f16, f17, f18, f19, f20, f21, f22, f23, f24, f25, f26, f27, f28, f29, f30⟩ := hΦ
               refine ⟨fun _ => ?_, fun h => absurd h (by rw [Go.RE.wanted_none rfl]; decide)⟩
               have d15 := f15 (hd 15 (by kernel_rfl))
               have e122 : a.tmps[122]? = some (x 122) := hx 15 _ 122 rfl rfl (hd 15 (by kernel_rfl))
               rw [d15] at e122
               have d29 := f29 (hd 29 (by kernel_rfl))
               have e136 : a.tmps[136]? = some (x 136) := hx 29 _ 136 rfl rfl (hd 29 (by kernel_rfl))
               rw [d29] at e136
               clear hf hx hd
               go_simp
               refine hK _ _ ?_
               exact ⟨hI, fun h => f0 h, fun h => f1 h, fun h => f2 h, fun h => f3 h, fun h => f4 h, fun h => f5 h, fun h => f6 h, fun h => f7 h, fun h => f8 h, fun h => f9 h, fun h => f10 h, fun h => f11 h, fun h => f12 h, fun h => f13 h, fun h => f14 h, fun h => f15 h, fun h => f16 h, fun h => f17 h, fun h => f18 h, fun h => f19 h, fun h => f20 h, fun h => f21 h, fun h => f22 h, fun h => f23 h, fun h => f24 h, fun h => f25 h, fun h => f26 h, fun h => f27 h, fun h => f28 h, fun h => f29 h, fun _ => rfl⟩
              ·rintro x W ⟨hI, f0, f1, f2, f3, f4, f5, f6, f7, f8, f9, f10, f11, f12, f13, f14, f15, f16, f17, f18, f19, f20, f21, f22, f23, f24, f25, f26, f27, f28, f29, f30⟩
               simp only [Exit.then]
               go_step
               go_meet
               exact ⟨f30 rfl, hI⟩
             ·have HAB := Lib.hid (hA1 ea)
              have HAN := Lib.hid (hAN ea)
              clear hA0 hA1 hB0 hB1 hAN hp4 hp5 hrv hqa hqb hrk hgk hr16 hv16 ea eb b0 hkn
              refine Go.RE.wp_region_eachg [107, 108, 109, 110, 111, 112, 113, 114, 115, 116, 117, 118, 119, 120, 121, 122, 123, 124, 125, 126, 127, 128, 129, 130, 131, 132, 133, 134, 135, 136, 137] (fun L x W => (Below wr.heap.size wr W) ∧ (L 0 = true → x 107 = .int .i64 (va : Int)) ∧ (L 1 = true → x 108 = .int .i64 (k : Int)) ∧ (L 2 = true → x 109 = .int .i64 (qa : Int)) ∧ (L 3 = true → x 110 = .int .i64 1) ∧ (L 4 = true → x 111 = .bool true) ∧ (L 5 = true → x 112 = .bool true) ∧ (L 6 = true → x 113 = .pointer (some ⟨B7, 2, none⟩)) ∧ (L 7 = true → x 114 = .slice (some ⟨g, o, none⟩) r1 r2) ∧ (L 8 = true → x 115 = .int .i64 (k : Int)) ∧ (L 9 = true → x 116 = .pointer (some ⟨g, o + k, none⟩)) ∧ (L 10 = true → x 117 = .int .i64 (rk : Int)) ∧ (L 11 = true → x 118 = .int .i64 (va : Int)) ∧ (L 12 = true → x 119 = .int .i64 0) ∧ (L 13 = true → x 120 = .bool false) ∧ (L 14 = true → x 121 = .bool false) ∧ (L 15 = true → x 122 = .bool false) ∧ (L 16 = true → x 123 = .int .i64 (vb : Int)) ∧ (L 17 = true → x 124 = .int .i64 (k : Int)) ∧ (L 18 = true → x 125 = .int .i64 (qb : Int)) ∧ (L 19 = true → x 126 = .int .i64 0) ∧ (L 20 = true → x 127 = .bool false) ∧ (L 21 = true → x 128 = .pointer (some ⟨B7, 2, none⟩)) ∧ (L 22 = true → x 129 = .slice (some ⟨g, o, none⟩) r1 r2) ∧ (L 23 = true → x 130 = .int .i64 (k : Int)) ∧ (L 24 = true → x 131 = .pointer (some ⟨g, o + k, none⟩)) ∧ (L 25 = true → x 132 = .int .i64 (rk : Int)) ∧ (L 26 = true → x 133 = .int .i64 (va : Int)) ∧ (L 27 = true → x 134 = .int .i64 (rv : Int)) ∧ (L 28 = true → x 135 = .bool false) ∧ (L 29 = true → x 136 = .bool false) ∧ (L 30 = true → x 137 = .bool false)) (by kernel_rfl) (by kernel_rfl) (by kernel_rfl) ?_ ((Go.RE.Each.cons ?_ (Go.RE.Each.cons ?_ (Go.RE.Each.cons ?_ (Go.RE.Each.cons ?_ (Go.RE.Each.cons ?_ (Go.RE.Each.cons ?_ (Go.RE.Each.cons ?_ (Go.RE.Each.cons ?_ (Go.RE.Each.cons ?_ (Go.RE.Each.cons ?_ (Go.RE.Each.cons ?_ (Go.RE.Each.cons ?_ (Go.RE.Each.cons ?_ (Go.RE.Each.cons ?_ (Go.RE.Each.cons ?_ (Go.RE.Each.cons ?_ (Go.RE.Each.cons ?_ (Go.RE.Each.cons ?_ (Go.RE.Each.cons ?_ (Go.RE.Each.cons ?_ (Go.RE.Each.cons ?_ (Go.RE.Each.cons ?_ (Go.RE.Each.cons ?_ (Go.RE.Each.cons ?_ (Go.RE.Each.cons ?_ (Go.RE.Each.cons ?_ (Go.RE.Each.cons ?_ (Go.RE.Each.cons ?_ (Go.RE.Each.cons ?_ (Go.RE.Each.cons ?_ (Go.RE.Each.cons ?_ Go.RE.Each.nil)))))))))))))))))))))))))))))))) ?_
              ·exact fun x => ⟨bl_dr (Below.refl _ _), fun h => (by cases h), fun h => (by cases h), fun h => (by cases h), fun h => (by cases h), fun h => (by cases h), fun h => (by cases h), fun h => (by cases h), fun h => (by cases h), fun h => (by cases h), fun h => (by cases h), fun h => (by cases h), fun h => (by cases h), fun h => (by cases h), fun h => (by cases h), fun h => (by cases h), fun h => (by cases h), fun h => (by cases h), fun h => (by cases h), fun h => (by cases h), fun h => (by cases h), fun h => (by cases h), fun h => (by cases h), fun h => (by cases h), fun h => (by cases h), fun h => (by cases h), fun h => (by cases h), fun h => (by cases h), fun h => (by cases h), fun h => (by cases h), fun h => (by cases h), fun h => (by cases h)⟩
              ·intro L x a wR K hL hd hf hx hΦ hK
               obtain ⟨hI, f0, f1, f2, f3, f4, f5, f6, f7, f8, f9, f10, f11, f12, f13, f14, f15, f16, f17, f18, f19, f20, f21, f22, f23, f24, f25, f26, f27, f28, f29, f30⟩ := hΦ
               refine ⟨fun _ => ?_, fun h => absurd h (by rw [Go.RE.wanted_none rfl]; decide)⟩
               have e10 : a.tmps[10]? = some (.int .i64 (va : Int)) := hf 10 (of_decide_eq_true (by kernel_rfl))
               clear hf hx hd
               go_simp
               refine hK _ _ ?_
               exact ⟨hI, fun _ => rfl, fun h => f1 h, fun h => f2 h, fun h => f3 h, fun h => f4 h, fun h => f5 h, fun h => f6 h, fun h => f7 h, fun h => f8 h, fun h => f9 h, fun h => f10 h, fun h => f11 h, fun h => f12 h, fun h => f13 h, fun h => f14 h, fun h => f15 h, fun h => f16 h, fun h => f17 h, fun h => f18 h, fun h => f19 h, fun h => f20 h, fun h => f21 h, fun h => f22 h, fun h => f23 h, fun h => f24 h, fun h => f25 h, fun h => f26 h, fun h => f27 h, fun h => f28 h, fun h => f29 h, fun h => f30 h⟩
              ·intro L x a wR K hL hd hf hx hΦ hK
               obtain ⟨hI, f0, f1, f2, f3, f4, f5, f6, f7, f8, f9, f10, f11, f12, f13, f14, f15, f16, f17, f18, f19, f20, f21, f22, f23, f24, f25, f26, f27, f28, f29, f30⟩ := hΦ
               refine ⟨fun _ => ?_, fun h => absurd h (by rw [Go.RE.wanted_none rfl]; decide)⟩
               have e18 : a.tmps[18]? = some (.int .i64 (k : Int)) := hf 18 (of_decide_eq_true (by kernel_rfl))
               clear hf hx hd
               go_simp
               refine hK _ _ ?_
               exact ⟨hI, fun h => f0 h, fun _ => rfl, fun h => f2 h, fun h => f3 h, fun h => f4 h, fun h => f5 h, fun h => f6 h, fun h => f7 h, fun h => f8 h, fun h => f9 h, fun h => f10 h, fun h => f11 h, fun h => f12 h, fun h => f13 h, fun h => f14 h, fun h => f15 h, fun h => f16 h, fun h => f17 h, fun h => f18 h, fun h => f19 h, fun h => f20 h, fun h => f21 h, fun h => f22 h, fun h => f23 h, fun h => f24 h, fun h => f25 h, fun h => f26 h, fun h => f27 h, fun h => f28 h, fun h => f29 h, fun h => f30 h⟩
              ·intro L x a wR K hL hd hf hx hΦ hK
               obtain ⟨hI, f0, f1, f2, f3, f4, f5, f6, f7, f8, f9, f10, f11, f12, f13, f14, f15, f16, f17, f18, f19, f20, f21, f22, f23, f24, f25, f26, f27, f28, f29, f30⟩ := hΦ
               refine ⟨fun _ => ?_, fun h => absurd h (by rw [Go.RE.wanted_none rfl]; decide)⟩
               have d0 := f0 (hd 0 (by kernel_rfl))
               have e107 : a.tmps[107]? = some (x 107) := hx 0 _ 107 rfl rfl (hd 0 (by kernel_rfl))
               rw [d0] at e107
               have d1 := f1 (hd 1 (by kernel_rfl))
               have e108 : a.tmps[108]? = some (x 108) := hx 1 _ 108 rfl rfl (hd 1 (by kernel_rfl))
               rw [d1] at e108
               have sh1 := HSH.out.1
               have hmin := HMN.out
               have b0 := HK0.out
               clear hf hx hd
               go_simp
               refine hK _ _ ?_
               exact ⟨hI, fun h => f0 h, fun h => f1 h, fun _ => rfl, fun h => f3 h, fun h => f4 h, fun h => f5 h, fun h => f6 h, fun h => f7 h, fun h => f8 h, fun h => f9 h, fun h => f10 h, fun h => f11 h, fun h => f12 h, fun h => f13 h, fun h => f14 h, fun h => f15 h, fun h => f16 h, fun h => f17 h, fun h => f18 h, fun h => f19 h, fun h => f20 h, fun h => f21 h, fun h => f22 h, fun h => f23 h, fun h => f24 h, fun h => f25 h, fun h => f26 h, fun h => f27 h, fun h => f28 h, fun h => f29 h, fun h => f30 h⟩
              ·intro L x a wR K hL hd hf hx hΦ hK
               obtain ⟨hI, f0, f1, f2, f3, f4, f5, f6, f7, f8, f9, f10, f11, f12, f13, f14, f15, f16, f17, f18, f19, f20, f21, f22, f23, f24, f25, f26, f27, f28, f29, f30⟩ := hΦ
               refine ⟨fun _ => ?_, fun h => absurd h (by rw [Go.RE.wanted_none rfl]; decide)⟩
               have d2 := f2 (hd 2 (by kernel_rfl))
               have e109 : a.tmps[109]? = some (x 109) := hx 2 _ 109 rfl rfl (hd 2 (by kernel_rfl))
               rw [d2] at e109
               have e1 := HAB.out
               clear hf hx hd
               go_simp
               refine hK _ _ ?_
               exact ⟨hI, fun h => f0 h, fun h => f1 h, fun h => f2 h, fun _ => rfl, fun h => f4 h, fun h => f5 h, fun h => f6 h, fun h => f7 h, fun h => f8 h, fun h => f9 h, fun h => f10 h, fun h => f11 h, fun h => f12 h, fun h => f13 h, fun h => f14 h, fun h => f15 h, fun h => f16 h, fun h => f17 h, fun h => f18 h, fun h => f19 h, fun h => f20 h, fun h => f21 h, fun h => f22 h, fun h => f23 h, fun h => f24 h, fun h => f25 h, fun h => f26 h, fun h => f27 h, fun h => f28 h, fun h => f29 h, fun h => f30 h⟩
              ·intro L x a wR K hL hd hf hx hΦ hK
               obtain ⟨hI, f0, f1, f2, f3, f4, f5, f6, f7, f8, f9, f10, f11, f12, f13, f14, f15, f16, f17, f18, f19, f20, f21, f22, f23, f24, f25, f26, f27, f28, f29, f30⟩ := hΦ
               refine ⟨fun _ => ?_, fun h => absurd h (by rw [Go.RE.wanted_none rfl]; decide)⟩
               have d3 := f3 (hd 3 (by kernel_rfl))
               have e110 : a.tmps[110]? = some (x 110) := hx 3 _ 110 rfl rfl (hd 3 (by kernel_rfl))
               rw [d3] at e110
               clear hf hx hd
               go_simp
               refine hK _ _ ?_
               exact ⟨hI, fun h => f0 h, fun h => f1 h, fun h => f2 h, fun h => f3 h, fun _ => rfl, fun h => f5 h, fun h => f6 h, fun h => f7 h, fun h => f8 h, fun h => f9 h, fun h => f10 h, fun h => f11 h, fun h => f12 h, fun h => f13 h, fun h => f14 h, fun h => f15 h, fun h => f16 h, fun h => f17 h, fun h => f18 h, fun h => f19 h, fun h => f20 h, fun h => f21 h, fun h => f22 h, fun h => f23 h, fun h => f24 h, fun h => f25 h, fun h => f26 h, fun h => f27 h, fun h => f28 h, fun h => f29 h, fun h => f30 h⟩
              ·intro L x a wR K hL hd hf hx hΦ hK
               obtain ⟨hI, f0, f1, f2, f3, f4, f5, f6, f7, f8, f9, f10, f11, f12, f13, f14, f15, f16, f17, f18, f19, f20, f21, f22, f23, f24, f25, f26, f27, f28, f29, f30⟩ := hΦ
               refine ⟨fun _ => ?_, fun h => absurd h (by rw [Go.RE.wanted_none rfl]; decide)⟩
               have d4 := f4 (hd 4 (by kernel_rfl))
               have e111 : a.tmps[111]? = some (x 111) := hx 4 _ 111 rfl rfl (hd 4 (by kernel_rfl))
               rw [d4] at e111
               clear hf hx hd
               go_simp
               refine hK _ _ ?_
               exact ⟨hI, fun h => f0 h, fun h => f1 h, fun h => f2 h, fun h => f3 h, fun h => f4 h, fun _ => rfl, fun h => f6 h, fun h => f7 h, fun h => f8 h, fun h => f9 h, fun h => f10 h, fun h => f11 h, fun h => f12 h, fun h => f13 h, fun h => f14 h, fun h => f15 h, fun h => f16 h, fun h => f17 h, fun h => f18 h, fun h => f19 h, fun h => f20 h, fun h => f21 h, fun h => f22 h, fun h => f23 h, fun h => f24 h, fun h => f25 h, fun h => f26 h, fun h => f27 h, fun h => f28 h, fun h => f29 h, fun h => f30 h⟩
              ·intro L x a wR K hL hd hf hx hΦ hK
               obtain ⟨hI, f0, f1, f2, f3, f4, f5, f6, f7, f8, f9, f10, f11, f12, f13, f14, f15, f16, f17, f18, f19, f20, f21, f22, f23, f24, f25, f26, f27, f28, f29, f30⟩ := hΦ
               have g5 := f5 (hd 5 (by kernel_rfl))
               have ge : a.tmps[112]? = some (x 112) := hx 5 _ 112 rfl rfl (hd 5 (by kernel_rfl))
               rw [g5] at ge
               refine ⟨fun _ => ?_, fun h => absurd h (by rw [Go.RE.wanted_of rfl (Go.RE.yielded_of rfl rfl ge)]; decide)⟩
               have e7 : a.tmps[7]? = some (.pointer (some ⟨B7, 0, none⟩)) := hf 7 (of_decide_eq_true (by kernel_rfl))
               clear hf hx hd
               go_simp
               refine hK _ _ ?_
               exact ⟨hI, fun h => f0 h, fun h => f1 h, fun h => f2 h, fun h => f3 h, fun h => f4 h, fun h => f5 h, fun _ => rfl, fun h => f7 h, fun h => f8 h, fun h => f9 h, fun h => f10 h, fun h => f11 h, fun h => f12 h, fun h => f13 h, fun h => f14 h, fun h => f15 h, fun h => f16 h, fun h => f17 h, fun h => f18 h, fun h => f19 h, fun h => f20 h, fun h => f21 h, fun h => f22 h, fun h => f23 h, fun h => f24 h, fun h => f25 h, fun h => f26 h, fun h => f27 h, fun h => f28 h, fun h => f29 h, fun h => f30 h⟩
              ·intro L x a wR K hL hd hf hx hΦ hK
               obtain ⟨hI, f0, f1, f2, f3, f4, f5, f6, f7, f8, f9, f10, f11, f12, f13, f14, f15, f16, f17, f18, f19, f20, f21, f22, f23, f24, f25, f26, f27, f28, f29, f30⟩ := hΦ
               have g5 := f5 (hd 5 (by kernel_rfl))
               have ge : a.tmps[112]? = some (x 112) := hx 5 _ 112 rfl rfl (hd 5 (by kernel_rfl))
               rw [g5] at ge
               refine ⟨fun _ => ?_, fun h => absurd h (by rw [Go.RE.wanted_of rfl (Go.RE.yielded_of rfl rfl ge)]; decide)⟩
               have d6 := f6 (hd 6 (by kernel_rfl))
               have e113 : a.tmps[113]? = some (x 113) := hx 6 _ 113 rfl rfl (hd 6 (by kernel_rfl))
               rw [d6] at e113
               have c := HM2.out _ hI
               clear hf hx hd
               go_simp
               refine hK _ _ ?_
               exact ⟨hI, fun h => f0 h, fun h => f1 h, fun h => f2 h, fun h => f3 h, fun h => f4 h, fun h => f5 h, fun h => f6 h, fun _ => rfl, fun h => f8 h, fun h => f9 h, fun h => f10 h, fun h => f11 h, fun h => f12 h, fun h => f13 h, fun h => f14 h, fun h => f15 h, fun h => f16 h, fun h => f17 h, fun h => f18 h, fun h => f19 h, fun h => f20 h, fun h => f21 h, fun h => f22 h, fun h => f23 h, fun h => f24 h, fun h => f25 h, fun h => f26 h, fun h => f27 h, fun h => f28 h, fun h => f29 h, fun h => f30 h⟩
              ·intro L x a wR K hL hd hf hx hΦ hK
               obtain ⟨hI, f0, f1, f2, f3, f4, f5, f6, f7, f8, f9, f10, f11, f12, f13, f14, f15, f16, f17, f18, f19, f20, f21, f22, f23, f24, f25, f26, f27, f28, f29, f30⟩ := hΦ
               have g5 := f5 (hd 5 (by kernel_rfl))
               have ge : a.tmps[112]? = some (x 112) := hx 5 _ 112 rfl rfl (hd 5 (by kernel_rfl))
               rw [g5] at ge
               refine ⟨fun _ => ?_, fun h => absurd h (by rw [Go.RE.wanted_of rfl (Go.RE.yielded_of rfl rfl ge)]; decide)⟩
               have e18 : a.tmps[18]? = some (.int .i64 (k : Int)) := hf 18 (of_decide_eq_true (by kernel_rfl))
               clear hf hx hd
               go_simp
               refine hK _ _ ?_
               exact ⟨hI, fun h => f0 h, fun h => f1 h, fun h => f2 h, fun h => f3 h, fun h => f4 h, fun h => f5 h, fun h => f6 h, fun h => f7 h, fun _ => rfl, fun h => f9 h, fun h => f10 h, fun h => f11 h, fun h => f12 h, fun h => f13 h, fun h => f14 h, fun h => f15 h, fun h => f16 h, fun h => f17 h, fun h => f18 h, fun h => f19 h, fun h => f20 h, fun h => f21 h, fun h => f22 h, fun h => f23 h, fun h => f24 h, fun h => f25 h, fun h => f26 h, fun h => f27 h, fun h => f28 h, fun h => f29 h, fun h => f30 h⟩
              ·intro L x a wR K hL hd hf hx hΦ hK
               obtain ⟨hI, f0, f1, f2, f3, f4, f5, f6, f7, f8, f9, f10, f11, f12, f13, f14, f15, f16, f17, f18, f19, f20, f21, f22, f23, f24, f25, f26, f27, f28, f29, f30⟩ := hΦ
               have g5 := f5 (hd 5 (by kernel_rfl))
               have ge : a.tmps[112]? = some (x 112) := hx 5 _ 112 rfl rfl (hd 5 (by kernel_rfl))
               rw [g5] at ge
               refine ⟨fun _ => ?_, fun h => absurd h (by rw [Go.RE.wanted_of rfl (Go.RE.yielded_of rfl rfl ge)]; decide)⟩
               have d7 := f7 (hd 7 (by kernel_rfl))
               have e114 : a.tmps[114]? = some (x 114) := hx 7 _ 114 rfl rfl (hd 7 (by kernel_rfl))
               rw [d7] at e114
               have d8 := f8 (hd 8 (by kernel_rfl))
               have e115 : a.tmps[115]? = some (x 115) := hx 8 _ 115 rfl rfl (hd 8 (by kernel_rfl))
               rw [d8] at e115
               have l1 := HK0.out
               have l2 := HK1.out
               clear hf hx hd
               go_simp
               refine hK _ _ ?_
               exact ⟨hI, fun h => f0 h, fun h => f1 h, fun h => f2 h, fun h => f3 h, fun h => f4 h, fun h => f5 h, fun h => f6 h, fun h => f7 h, fun h => f8 h, fun _ => rfl, fun h => f10 h, fun h => f11 h, fun h => f12 h, fun h => f13 h, fun h => f14 h, fun h => f15 h, fun h => f16 h, fun h => f17 h, fun h => f18 h, fun h => f19 h, fun h => f20 h, fun h => f21 h, fun h => f22 h, fun h => f23 h, fun h => f24 h, fun h => f25 h, fun h => f26 h, fun h => f27 h, fun h => f28 h, fun h => f29 h, fun h => f30 h⟩
              ·intro L x a wR K hL hd hf hx hΦ hK
               obtain ⟨hI, f0, f1, f2, f3, f4, f5, f6, f7, f8, f9, f10, f11, f12, f13, f14, f15, f16, f17, f18, f19, f20, f21, f22, f23, f24, f25, f26, f27, f28, f29, f30⟩ := hΦ
               have g5 := f5 (hd 5 (by kernel_rfl))
               have ge : a.tmps[112]? = some (x 112) := hx 5 _ 112 rfl rfl (hd 5 (by kernel_rfl))
               rw [g5] at ge
               refine ⟨fun _ => ?_, fun h => absurd h (by rw [Go.RE.wanted_of rfl (Go.RE.yielded_of rfl rfl ge)]; decide)⟩
               have d9 := f9 (hd 9 (by kernel_rfl))
               have e116 : a.tmps[116]? = some (x 116) := hx 9 _ 116 rfl rfl (hd 9 (by kernel_rfl))
               rw [d9] at e116
               have c := HRK.out _ hI
               clear hf hx hd
               go_simp
               refine hK _ _ ?_
               exact ⟨hI, fun h => f0 h, fun h => f1 h, fun h => f2 h, fun h => f3 h, fun h => f4 h, fun h => f5 h, fun h => f6 h, fun h => f7 h, fun h => f8 h, fun h => f9 h, fun _ => rfl, fun h => f11 h, fun h => f12 h, fun h => f13 h, fun h => f14 h, fun h => f15 h, fun h => f16 h, fun h => f17 h, fun h => f18 h, fun h => f19 h, fun h => f20 h, fun h => f21 h, fun h => f22 h, fun h => f23 h, fun h => f24 h, fun h => f25 h, fun h => f26 h, fun h => f27 h, fun h => f28 h, fun h => f29 h, fun h => f30 h⟩
              ·intro L x a wR K hL hd hf hx hΦ hK
               obtain ⟨hI, f0, f1, f2, f3, f4, f5, f6, f7, f8, f9, f10, f11, f12, f13, f14, f15, f16, f17, f18, f19, f20, f21, f22, f23, f24, f25, f26, f27, f28, f29, f30⟩ := hΦ
               have g5 := f5 (hd 5 (by kernel_rfl))
               have ge : a.tmps[112]? = some (x 112) := hx 5 _ 112 rfl rfl (hd 5 (by kernel_rfl))
               rw [g5] at ge
               refine ⟨fun _ => ?_, fun h => absurd h (by rw [Go.RE.wanted_of rfl (Go.RE.yielded_of rfl rfl ge)]; decide)⟩
               have e10 : a.tmps[10]? = some (.int .i64 (va : Int)) := hf 10 (of_decide_eq_true (by kernel_rfl))
               clear hf hx hd
               go_simp
               refine hK _ _ ?_
               exact ⟨hI, fun h => f0 h, fun h => f1 h, fun h => f2 h, fun h => f3 h, fun h => f4 h, fun h => f5 h, fun h => f6 h, fun h => f7 h, fun h => f8 h, fun h => f9 h, fun h => f10 h, fun _ => rfl, fun h => f12 h, fun h => f13 h, fun h => f14 h, fun h => f15 h, fun h => f16 h, fun h => f17 h, fun h => f18 h, fun h => f19 h, fun h => f20 h, fun h => f21 h, fun h => f22 h, fun h => f23 h, fun h => f24 h, fun h => f25 h, fun h => f26 h, fun h => f27 h, fun h => f28 h, fun h => f29 h, fun h => f30 h⟩
              ·intro L x a wR K hL hd hf hx hΦ hK
               obtain ⟨hI, f0, f1, f2, f3, f4, f5, f6, f7, f8, f9, f10, f11, f12, f13, f14, f15, f16, f17, f18, f19, f20, f21, f22, f23, f24, f25, f26, f27, f28, f29, f30⟩ := hΦ
               have g5 := f5 (hd 5 (by kernel_rfl))
               have ge : a.tmps[112]? = some (x 112) := hx 5 _ 112 rfl rfl (hd 5 (by kernel_rfl))
               rw [g5] at ge
               refine ⟨fun _ => ?_, fun h => absurd h (by rw [Go.RE.wanted_of rfl (Go.RE.yielded_of rfl rfl ge)]; decide)⟩
               have d10 := f10 (hd 10 (by kernel_rfl))
               have e117 : a.tmps[117]? = some (x 117) := hx 10 _ 117 rfl rfl (hd 10 (by kernel_rfl))
               rw [d10] at e117
               have d11 := f11 (hd 11 (by kernel_rfl))
               have e118 : a.tmps[118]? = some (x 118) := hx 11 _ 118 rfl rfl (hd 11 (by kernel_rfl))
               rw [d11] at e118
               have e1 := HAN.out
               clear hf hx hd
               go_simp
               refine hK _ _ ?_
               exact ⟨hI, fun h => f0 h, fun h => f1 h, fun h => f2 h, fun h => f3 h, fun h => f4 h, fun h => f5 h, fun h => f6 h, fun h => f7 h, fun h => f8 h, fun h => f9 h, fun h => f10 h, fun h => f11 h, fun _ => rfl, fun h => f13 h, fun h => f14 h, fun h => f15 h, fun h => f16 h, fun h => f17 h, fun h => f18 h, fun h => f19 h, fun h => f20 h, fun h => f21 h, fun h => f22 h, fun h => f23 h, fun h => f24 h, fun h => f25 h, fun h => f26 h, fun h => f27 h, fun h => f28 h, fun h => f29 h, fun h => f30 h⟩
              ·intro L x a wR K hL hd hf hx hΦ hK
               obtain ⟨hI, f0, f1, f2, f3, f4, f5, f6, f7, f8, f9, f10, f11, f12, f13, f14, f15, f16, f17, f18, f19, f20, f21, f22, f23, f24, f25, f26, f27, f28, f29, f30⟩ := hΦ
               have g5 := f5 (hd 5 (by kernel_rfl))
               have ge : a.tmps[112]? = some (x 112) := hx 5 _ 112 rfl rfl (hd 5 (by kernel_rfl))
               rw [g5] at ge
               refine ⟨fun _ => ?_, fun h => absurd h (by rw [Go.RE.wanted_of rfl (Go.RE.yielded_of rfl rfl ge)]; decide)⟩
               have d12 := f12 (hd 12 (by kernel_rfl))
               have e119 : a.tmps[119]? = some (x 119) := hx 12 _ 119 rfl rfl (hd 12 (by kernel_rfl))
               rw [d12] at e119
               clear hf hx hd
               go_simp
               refine hK _ _ ?_
               exact ⟨hI, fun h => f0 h, fun h => f1 h, fun h => f2 h, fun h => f3 h, fun h => f4 h, fun h => f5 h, fun h => f6 h, fun h => f7 h, fun h => f8 h, fun h => f9 h, fun h => f10 h, fun h => f11 h, fun h => f12 h, fun _ => rfl, fun h => f14 h, fun h => f15 h, fun h => f16 h, fun h => f17 h, fun h => f18 h, fun h => f19 h, fun h => f20 h, fun h => f21 h, fun h => f22 h, fun h => f23 h, fun h => f24 h, fun h => f25 h, fun h => f26 h, fun h => f27 h, fun h => f28 h, fun h => f29 h, fun h => f30 h⟩
              ·intro L x a wR K hL hd hf hx hΦ hK
               obtain ⟨hI, f0, f1, f2, f3, f4, f5, f6, f7, f8, f9, f10, f11, f12, f13, f14, f15, f16, f17, f18, f19, f20, f21, f22, f23, f24, f25, f26, f27, f28, f29, f30⟩ := hΦ
               refine ⟨fun _ => ?_, fun h => absurd h (by rw [Go.RE.wanted_none rfl]; decide)⟩
               have d5 := f5 (hd 5 (by kernel_rfl))
               have e112 : a.tmps[112]? = some (x 112) := hx 5 _ 112 rfl rfl (hd 5 (by kernel_rfl))
               rw [d5] at e112
               have d13 := f13 (hd 13 (by kernel_rfl))
               have e120 : a.tmps[120]? = some (x 120) := hx 13 _ 120 rfl rfl (hd 13 (by kernel_rfl))
               rw [d13] at e120
               clear hf hx hd
               go_simp
               refine hK _ _ ?_
               exact ⟨hI, fun h => f0 h, fun h => f1 h, fun h => f2 h, fun h => f3 h, fun h => f4 h, fun h => f5 h, fun h => f6 h, fun h => f7 h, fun h => f8 h, fun h => f9 h, fun h => f10 h, fun h => f11 h, fun h => f12 h, fun h => f13 h, fun _ => rfl, fun h => f15 h, fun h => f16 h, fun h => f17 h, fun h => f18 h, fun h => f19 h, fun h => f20 h, fun h => f21 h, fun h => f22 h, fun h => f23 h, fun h => f24 h, fun h => f25 h, fun h => f26 h, fun h => f27 h, fun h => f28 h, fun h => f29 h, fun h => f30 h⟩
              ·intro L x a wR K hL hd hf hx hΦ hK
               obtain ⟨hI, f0, f1, f2, f3, f4, f5, f6, f7, f8, f9, f10, f11, f12, f13, f14, f15, f16, f17, f18, f19, f20, f21, f22, f23, f24, f25, f26, f27, f28, f29, f30⟩ := hΦ
               refine ⟨fun _ => ?_, fun h => absurd h (by rw [Go.RE.wanted_none rfl]; decide)⟩
               have d14 := f14 (hd 14 (by kernel_rfl))
               have e121 : a.tmps[121]? = some (x 121) := hx 14 _ 121 rfl rfl (hd 14 (by kernel_rfl))
               rw [d14] at e121
               clear hf hx hd
               go_simp
               refine hK _ _ ?_
               exact ⟨hI, fun h => f0 h, fun h => f1 h, fun h => f2 h, fun h => f3 h, fun h => f4 h, fun h => f5 h, fun h => f6 h, fun h => f7 h, fun h => f8 h, fun h => f9 h, fun h => f10 h, fun h => f11 h, fun h => f12 h, fun h => f13 h, fun h => f14 h, fun _ => rfl, fun h => f16 h, fun h => f17 h, fun h => f18 h, fun h => f19 h, fun h => f20 h, fun h => f21 h, fun h => f22 h, fun h => f23 h, fun h => f24 h, fun h => f25 h, fun h => f26 h, fun h => f27 h, fun h => f28 h, fun h => f29 h, fun h => f30 h⟩
              ·intro L x a wR K hL hd hf hx hΦ hK
               obtain ⟨hI, f0, f1, f2, f3, f4, f5, f6, f7, f8, f9, f10, f11, f12, f13, f14, f15, f16, f17, f18, f19, f20, f21, f22, f23, f24, f25, f26, f27, f28, f29, f30⟩ := hΦ
               have g15 := f15 (hd 15 (by kernel_rfl))
               have ge : a.tmps[122]? = some (x 122) := hx 15 _ 122 rfl rfl (hd 15 (by kernel_rfl))
               rw [g15] at ge
               refine ⟨fun _ => ?_, fun h => absurd h (by rw [Go.RE.wanted_of rfl (Go.RE.yielded_of rfl rfl ge)]; decide)⟩
               have e12 : a.tmps[12]? = some (.int .i64 (vb : Int)) := hf 12 (of_decide_eq_true (by kernel_rfl))
               clear hf hx hd
               go_simp
               refine hK _ _ ?_
               exact ⟨hI, fun h => f0 h, fun h => f1 h, fun h => f2 h, fun h => f3 h, fun h => f4 h, fun h => f5 h, fun h => f6 h, fun h => f7 h, fun h => f8 h, fun h => f9 h, fun h => f10 h, fun h => f11 h, fun h => f12 h, fun h => f13 h, fun h => f14 h, fun h => f15 h, fun _ => rfl, fun h => f17 h, fun h => f18 h, fun h => f19 h, fun h => f20 h, fun h => f21 h, fun h => f22 h, fun h => f23 h, fun h => f24 h, fun h => f25 h, fun h => f26 h, fun h => f27 h, fun h => f28 h, fun h => f29 h, fun h => f30 h⟩
              ·intro L x a wR K hL hd hf hx hΦ hK
               obtain ⟨hI, f0, f1, f2, f3, f4, f5, f6, f7, f8, f9, f10, f11, f12, f13, f14, f15, f16, f17, f18, f19, f20, f21, f22, f23, f24, f25, f26, f27, f28, f29, f30⟩ := hΦ
               have g15 := f15 (hd 15 (by kernel_rfl))
               have ge : a.tmps[122]? = some (x 122) := hx 15 _ 122 rfl rfl (hd 15 (by kernel_rfl))
               rw [g15] at ge
               refine ⟨fun _ => ?_, fun h => absurd h (by rw [Go.RE.wanted_of rfl (Go.RE.yielded_of rfl rfl ge)]; decide)⟩
               have e18 : a.tmps[18]? = some (.int .i64 (k : Int)) := hf 18 (of_decide_eq_true (by kernel_rfl))
               clear hf hx hd
               go_simp
               refine hK _ _ ?_
               exact ⟨hI, fun h => f0 h, fun h => f1 h, fun h => f2 h, fun h => f3 h, fun h => f4 h, fun h => f5 h, fun h => f6 h, fun h => f7 h, fun h => f8 h, fun h => f9 h, fun h => f10 h, fun h => f11 h, fun h => f12 h, fun h => f13 h, fun h => f14 h, fun h => f15 h, fun h => f16 h, fun _ => rfl, fun h => f18 h, fun h => f19 h, fun h => f20 h, fun h => f21 h, fun h => f22 h, fun h => f23 h, fun h => f24 h, fun h => f25 h, fun h => f26 h, fun h => f27 h, fun h => f28 h, fun h => f29 h, fun h => f30 h⟩
              ·intro L x a wR K hL hd hf hx hΦ hK
               obtain ⟨hI, f0, f1, f2, f3, f4, f5, f6, f7, f8, f9, f10, f11, f12, f13, f14, f15, f16, f17, f18, f19, f20, f21, f22, f23, f24, f25, f26, f27, f28, f29, f30⟩ := hΦ
               have g15 := f15 (hd 15 (by kernel_rfl))
               have ge : a.tmps[122]? = some (x 122) := hx 15 _ 122 rfl rfl (hd 15 (by kernel_rfl))
               rw [g15] at ge
               refine ⟨fun _ => ?_, fun h => absurd h (by rw [Go.RE.wanted_of rfl (Go.RE.yielded_of rfl rfl ge)]; decide)⟩
               have d16 := f16 (hd 16 (by kernel_rfl))
               have e123 : a.tmps[123]? = some (x 123) := hx 16 _ 123 rfl rfl (hd 16 (by kernel_rfl))
               rw [d16] at e123
               have d17 := f17 (hd 17 (by kernel_rfl))
               have e124 : a.tmps[124]? = some (x 124) := hx 17 _ 124 rfl rfl (hd 17 (by kernel_rfl))
               rw [d17] at e124
               have sh1 := HSH.out.2
               have hmin := HMN.out
               have b0 := HK0.out
               clear hf hx hd
               go_simp
               refine hK _ _ ?_
               exact ⟨hI, fun h => f0 h, fun h => f1 h, fun h => f2 h, fun h => f3 h, fun h => f4 h, fun h => f5 h, fun h => f6 h, fun h => f7 h, fun h => f8 h, fun h => f9 h, fun h => f10 h, fun h => f11 h, fun h => f12 h, fun h => f13 h, fun h => f14 h, fun h => f15 h, fun h => f16 h, fun h => f17 h, fun _ => rfl, fun h => f19 h, fun h => f20 h, fun h => f21 h, fun h => f22 h, fun h => f23 h, fun h => f24 h, fun h => f25 h, fun h => f26 h, fun h => f27 h, fun h => f28 h, fun h => f29 h, fun h => f30 h⟩
              ·intro L x a wR K hL hd hf hx hΦ hK
               obtain ⟨hI, f0, f1, f2, f3, f4, f5, f6, f7, f8, f9, f10, f11, f12, f13, f14, f15, f16, f17, f18, f19, f20, f21, f22, f23, f24, f25, f26, f27, f28, f29, f30⟩ := hΦ
               have g15 := f15 (hd 15 (by kernel_rfl))
               have ge : a.tmps[122]? = some (x 122) := hx 15 _ 122 rfl rfl (hd 15 (by kernel_rfl))
               rw [g15] at ge
               refine ⟨fun _ => ?_, fun h => absurd h (by rw [Go.RE.wanted_of rfl (Go.RE.yielded_of rfl rfl ge)]; decide)⟩
               have d18 := f18 (hd 18 (by kernel_rfl))
               have e125 : a.tmps[125]? = some (x 125) := hx 18 _ 125 rfl rfl (hd 18 (by kernel_rfl))
               rw [d18] at e125
               have e1 := HBB.out
               clear hf hx hd
               go_simp
               refine hK _ _ ?_
               exact ⟨hI, fun h => f0 h, fun h => f1 h, fun h => f2 h, fun h => f3 h, fun h => f4 h, fun h => f5 h, fun h => f6 h, fun h => f7 h, fun h => f8 h, fun h => f9 h, fun h => f10 h, fun h => f11 h, fun h => f12 h, fun h => f13 h, fun h => f14 h, fun h => f15 h, fun h => f16 h, fun h => f17 h, fun h => f18 h, fun _ => rfl, fun h => f20 h, fun h => f21 h, fun h => f22 h, fun h => f23 h, fun h => f24 h, fun h => f25 h, fun h => f26 h, fun h => f27 h, fun h => f28 h, fun h => f29 h, fun h => f30 h⟩
              ·intro L x a wR K hL hd hf hx hΦ hK
               obtain ⟨hI, f0, f1, f2, f3, f4, f5, f6, f7, f8, f9, f10, f11, f12, f13, f14, f15, f16, f17, f18, f19, f20, f21, f22, f23, f24, f25, f26, f27, f28, f29, f30⟩ := hΦ
               have g15 := f15 (hd 15 (by kernel_rfl))
               have ge : a.tmps[122]? = some (x 122) := hx 15 _ 122 rfl rfl (hd 15 (by kernel_rfl))
               rw [g15] at ge
               refine ⟨fun _ => ?_, fun h => absurd h (by rw [Go.RE.wanted_of rfl (Go.RE.yielded_of rfl rfl ge)]; decide)⟩
               have d19 := f19 (hd 19 (by kernel_rfl))
               have e126 : a.tmps[126]? = some (x 126) := hx 19 _ 126 rfl rfl (hd 19 (by kernel_rfl))
               rw [d19] at e126
               clear hf hx hd
               go_simp
               refine hK _ _ ?_
               exact ⟨hI, fun h => f0 h, fun h => f1 h, fun h => f2 h, fun h => f3 h, fun h => f4 h, fun h => f5 h, fun h => f6 h, fun h => f7 h, fun h => f8 h, fun h => f9 h, fun h => f10 h, fun h => f11 h, fun h => f12 h, fun h => f13 h, fun h => f14 h, fun h => f15 h, fun h => f16 h, fun h => f17 h, fun h => f18 h, fun h => f19 h, fun _ => rfl, fun h => f21 h, fun h => f22 h, fun h => f23 h, fun h => f24 h, fun h => f25 h, fun h => f26 h, fun h => f27 h, fun h => f28 h, fun h => f29 h, fun h => f30 h⟩
              ·intro L x a wR K hL hd hf hx hΦ hK
               obtain ⟨hI, f0, f1, f2, f3, f4, f5, f6, f7, f8, f9, f10, f11, f12, f13, f14, f15, f16, f17, f18, f19, f20, f21, f22, f23, f24, f25, f26, f27, f28, f29, f30⟩ := hΦ
               have g15 := f15 (hd 15 (by kernel_rfl))
               have ge : a.tmps[122]? = some (x 122) := hx 15 _ 122 rfl rfl (hd 15 (by kernel_rfl))
               rw [g15] at ge
               refine ⟨fun _ => ?_, fun h => absurd h (by rw [Go.RE.wanted_of rfl (Go.RE.yielded_of rfl rfl ge)]; decide)⟩
               have e7 : a.tmps[7]? = some (.pointer (some ⟨B7, 0, none⟩)) := hf 7 (of_decide_eq_true (by kernel_rfl))
               clear hf hx hd
               go_simp
               refine hK _ _ ?_
               exact ⟨hI, fun h => f0 h, fun h => f1 h, fun h => f2 h, fun h => f3 h, fun h => f4 h, fun h => f5 h, fun h => f6 h, fun h => f7 h, fun h => f8 h, fun h => f9 h, fun h => f10 h, fun h => f11 h, fun h => f12 h, fun h => f13 h, fun h => f14 h, fun h => f15 h, fun h => f16 h, fun h => f17 h, fun h => f18 h, fun h => f19 h, fun h => f20 h, fun _ => rfl, fun h => f22 h, fun h => f23 h, fun h => f24 h, fun h => f25 h, fun h => f26 h, fun h => f27 h, fun h => f28 h, fun h => f29 h, fun h => f30 h⟩
              ·intro L x a wR K hL hd hf hx hΦ hK
               obtain ⟨hI, f0, f1, f2, f3, f4, f5, f6, f7, f8, f9, f10, f11, f12, f13, f14, f15, f16, f17, f18, f19, f20, f21, f22, f23, f24, f25, f26, f27, f28, f29, f30⟩ := hΦ
               have g15 := f15 (hd 15 (by kernel_rfl))
               have ge : a.tmps[122]? = some (x 122) := hx 15 _ 122 rfl rfl (hd 15 (by kernel_rfl))
               rw [g15] at ge
               refine ⟨fun _ => ?_, fun h => absurd h (by rw [Go.RE.wanted_of rfl (Go.RE.yielded_of rfl rfl ge)]; decide)⟩
               have d21 := f21 (hd 21 (by kernel_rfl))
               have e128 : a.tmps[128]? = some (x 128) := hx 21 _ 128 rfl rfl (hd 21 (by kernel_rfl))
               rw [d21] at e128
               have c := HM2.out _ hI
               clear hf hx hd
               go_simp
               refine hK _ _ ?_
               exact ⟨hI, fun h => f0 h, fun h => f1 h, fun h => f2 h, fun h => f3 h, fun h => f4 h, fun h => f5 h, fun h => f6 h, fun h => f7 h, fun h => f8 h, fun h => f9 h, fun h => f10 h, fun h => f11 h, fun h => f12 h, fun h => f13 h, fun h => f14 h, fun h => f15 h, fun h => f16 h, fun h => f17 h, fun h => f18 h, fun h => f19 h, fun h => f20 h, fun h => f21 h, fun _ => rfl, fun h => f23 h, fun h => f24 h, fun h => f25 h, fun h => f26 h, fun h => f27 h, fun h => f28 h, fun h => f29 h, fun h => f30 h⟩
              ·intro L x a wR K hL hd hf hx hΦ hK
               obtain ⟨hI, f0, f1, f2, f3, f4, f5, f6, f7, f8, f9, f10, f11, f12, f13, f14, f15, f16, f17, f18, f19, f20, f21, f22, f23, f24, f25, f26, f27, f28, f29, f30⟩ := hΦ
               have g15 := f15 (hd 15 (by kernel_rfl))
               have ge : a.tmps[122]? = some (x 122) := hx 15 _ 122 rfl rfl (hd 15 (by kernel_rfl))
               rw [g15] at ge
               refine ⟨fun _ => ?_, fun h => absurd h (by rw [Go.RE.wanted_of rfl (Go.RE.yielded_of rfl rfl ge)]; decide)⟩
               have e18 : a.tmps[18]? = some (.int .i64 (k : Int)) := hf 18 (of_decide_eq_true (by kernel_rfl))
               clear hf hx hd
               go_simp
               refine hK _ _ ?_
               exact ⟨hI, fun h => f0 h, fun h => f1 h, fun h => f2 h, fun h => f3 h, fun h => f4 h, fun h => f5 h, fun h => f6 h, fun h => f7 h, fun h => f8 h, fun h => f9 h, fun h => f10 h, fun h => f11 h, fun h => f12 h, fun h => f13 h, fun h => f14 h, fun h => f15 h, fun h => f16 h, fun h => f17 h, fun h => f18 h, fun h => f19 h, fun h => f20 h, fun h => f21 h, fun h => f22 h, fun _ => rfl, fun h => f24 h, fun h => f25 h, fun h => f26 h, fun h => f27 h, fun h => f28 h, fun h => f29 h, fun h => f30 h⟩
              ·intro L x a wR K hL hd hf hx hΦ hK
               obtain ⟨hI, f0, f1, f2, f3, f4, f5, f6, f7, f8, f9, f10, f11, f12, f13, f14, f15, f16, f17, f18, f19, f20, f21, f22, f23, f24, f25, f26, f27, f28, f29, f30⟩ := hΦ
               have g15 := f15 (hd 15 (by kernel_rfl))
               have ge : a.tmps[122]? = some (x 122) := hx 15 _ 122 rfl rfl (hd 15 (by kernel_rfl))
               rw [g15] at ge
               refine ⟨fun _ => ?_, fun h => absurd h (by rw [Go.RE.wanted_of rfl (Go.RE.yielded_of rfl rfl ge)]; decide)⟩
               have d22 := f22 (hd 22 (by kernel_rfl))
               have e129 : a.tmps[129]? = some (x 129) := hx 22 _ 129 rfl rfl (hd 22 (by kernel_rfl))
               rw [d22] at e129
               have d23 := f23 (hd 23 (by kernel_rfl))
               have e130 : a.tmps[130]? = some (x 130) := hx 23 _ 130 rfl rfl (hd 23 (by kernel_rfl))
               rw [d23] at e130
               have l1 := HK0.out
               have l2 := HK1.out
               clear hf hx hd
               go_simp
               refine hK _ _ ?_
               exact ⟨hI, fun h => f0 h, fun h => f1 h, fun h => f2 h, fun h => f3 h, fun h => f4 h, fun h => f5 h, fun h => f6 h, fun h => f7 h, fun h => f8 h, fun h => f9 h, fun h => f10 h, fun h => f11 h, fun h => f12 h, fun h => f13 h, fun h => f14 h, fun h => f15 h, fun h => f16 h, fun h => f17 h, fun h => f18 h, fun h => f19 h, fun h => f20 h, fun h => f21 h, fun h => f22 h, fun h => f23 h, fun _ => rfl, fun h => f25 h, fun h => f26 h, fun h => f27 h, fun h => f28 h, fun h => f29 h, fun h => f30 h⟩
              ·intro L x a wR K hL hd hf hx hΦ hK
               obtain ⟨hI, f0, f1, f2, f3, f4, f5, f6, f7, f8, f9, f10, f11, f12, f13, f14, f15, f16, f17, f18, f19, f20, f21, f22, f23, f24, f25, f26, f27, f28, f29, f30⟩ := hΦ
               have g15 := f15 (hd 15 (by kernel_rfl))
               have ge : a.tmps[122]? = some (x 122) := hx 15 _ 122 rfl rfl (hd 15 (by kernel_rfl))
               rw [g15] at ge
               refine ⟨fun _ => ?_, fun h => absurd h (by rw [Go.RE.wanted_of rfl (Go.RE.yielded_of rfl rfl ge)]; decide)⟩
               have d24 := f24 (hd 24 (by kernel_rfl))
               have e131 : a.tmps[131]? = some (x 131) := hx 24 _ 131 rfl rfl (hd 24 (by kernel_rfl))
               rw [d24] at e131
               have c := HRK.out _ hI
               clear hf hx hd
               go_simp
               refine hK _ _ ?_
               exact ⟨hI, fun h => f0 h, fun h => f1 h, fun h => f2 h, fun h => f3 h, fun h => f4 h, fun h => f5 h, fun h => f6 h, fun h => f7 h, fun h => f8 h, fun h => f9 h, fun h => f10 h, fun h => f11 h, fun h => f12 h, fun h => f13 h, fun h => f14 h, fun h => f15 h, fun h => f16 h, fun h => f17 h, fun h => f18 h, fun h => f19 h, fun h => f20 h, fun h => f21 h, fun h => f22 h, fun h => f23 h, fun h => f24 h, fun _ => rfl, fun h => f26 h, fun h => f27 h, fun h => f28 h, fun h => f29 h, fun h => f30 h⟩
              ·intro L x a wR K hL hd hf hx hΦ hK
               obtain ⟨hI, f0, f1, f2, f3, f4, f5, f6, f7, f8, f9, f10, f11, f12, f13, f14, f15, f16, f17, f18, f19, f20, f21, f22, f23, f24, f25, f26, f27, f28, f29, f30⟩ := hΦ
               have g15 := f15 (hd 15 (by kernel_rfl))
               have ge : a.tmps[122]? = some (x 122) := hx 15 _ 122 rfl rfl (hd 15 (by kernel_rfl))
               rw [g15] at ge
               refine ⟨fun _ => ?_, fun h => absurd h (by rw [Go.RE.wanted_of rfl (Go.RE.yielded_of rfl rfl ge)]; decide)⟩
               have e10 : a.tmps[10]? = some (.int .i64 (va : Int)) := hf 10 (of_decide_eq_true (by kernel_rfl))
               clear hf hx hd
               go_simp
               refine hK _ _ ?_
               exact ⟨hI, fun h => f0 h, fun h => f1 h, fun h => f2 h, fun h => f3 h, fun h => f4 h, fun h => f5 h, fun h => f6 h, fun h => f7 h, fun h => f8 h, fun h => f9 h, fun h => f10 h, fun h => f11 h, fun h => f12 h, fun h => f13 h, fun h => f14 h, fun h => f15 h, fun h => f16 h, fun h => f17 h, fun h => f18 h, fun h => f19 h, fun h => f20 h, fun h => f21 h, fun h => f22 h, fun h => f23 h, fun h => f24 h, fun h => f25 h, fun _ => rfl, fun h => f27 h, fun h => f28 h, fun h => f29 h, fun h => f30 h⟩
              ·intro L x a wR K hL hd hf hx hΦ hK
               obtain ⟨hI, f0, f1, f2, f3, f4, f5, f6, f7, f8, f9, f10, f11, f12, f13, f14, f15, f16, f17, f18, f19, f20, f21, f22, f23, f24, f25, f26, f27, f28, f29, f30⟩ := hΦ
               have g15 := f15 (hd 15 (by kernel_rfl))
               have ge : a.tmps[122]? = some (x 122) := hx 15 _ 122 rfl rfl (hd 15 (by kernel_rfl))
               rw [g15] at ge
               refine ⟨fun _ => ?_, fun h => absurd h (by rw [Go.RE.wanted_of rfl (Go.RE.yielded_of rfl rfl ge)]; decide)⟩
               have d25 := f25 (hd 25 (by kernel_rfl))
               have e132 : a.tmps[132]? = some (x 132) := hx 25 _ 132 rfl rfl (hd 25 (by kernel_rfl))
               rw [d25] at e132
               have d26 := f26 (hd 26 (by kernel_rfl))
               have e133 : a.tmps[133]? = some (x 133) := hx 26 _ 133 rfl rfl (hd 26 (by kernel_rfl))
               rw [d26] at e133
               have e1 := HRV.out
               clear hf hx hd
               go_simp
               refine hK _ _ ?_
               exact ⟨hI, fun h => f0 h, fun h => f1 h, fun h => f2 h, fun h => f3 h, fun h => f4 h, fun h => f5 h, fun h => f6 h, fun h => f7 h, fun h => f8 h, fun h => f9 h, fun h => f10 h, fun h => f11 h, fun h => f12 h, fun h => f13 h, fun h => f14 h, fun h => f15 h, fun h => f16 h, fun h => f17 h, fun h => f18 h, fun h => f19 h, fun h => f20 h, fun h => f21 h, fun h => f22 h, fun h => f23 h, fun h => f24 h, fun h => f25 h, fun h => f26 h, fun _ => rfl, fun h => f28 h, fun h => f29 h, fun h => f30 h⟩
              ·intro L x a wR K hL hd hf hx hΦ hK
               obtain ⟨hI, f0, f1, f2, f3, f4, f5, f6, f7, f8, f9, f10, f11, f12, f13, f14, f15, f16, f17, f18, f19, f20, f21, f22, f23, f24, f25, f26, f27, f28, f29, f30⟩ := hΦ
               have g15 := f15 (hd 15 (by kernel_rfl))
               have ge : a.tmps[122]? = some (x 122) := hx 15 _ 122 rfl rfl (hd 15 (by kernel_rfl))
               rw [g15] at ge
               refine ⟨fun _ => ?_, fun h => absurd h (by rw [Go.RE.wanted_of rfl (Go.RE.yielded_of rfl rfl ge)]; decide)⟩
               have d27 := f27 (hd 27 (by kernel_rfl))
               have e134 : a.tmps[134]? = some (x 134) := hx 27 _ 134 rfl rfl (hd 27 (by kernel_rfl))
               rw [d27] at e134
               have e1 := HRZ.out
               clear hf hx hd
               go_simp
               refine hK _ _ ?_
               exact ⟨hI, fun h => f0 h, fun h => f1 h, fun h => f2 h, fun h => f3 h, fun h => f4 h, fun h => f5 h, fun h => f6 h, fun h => f7 h, fun h => f8 h, fun h => f9 h, fun h => f10 h, fun h => f11 h, fun h => f12 h, fun h => f13 h, fun h => f14 h, fun h => f15 h, fun h => f16 h, fun h => f17 h, fun h => f18 h, fun h => f19 h, fun h => f20 h, fun h => f21 h, fun h => f22 h, fun h => f23 h, fun h => f24 h, fun h => f25 h, fun h => f26 h, fun h => f27 h, fun _ => rfl, fun h => f29 h, fun h => f30 h⟩
              ·intro L x a wR K hL hd hf hx hΦ hK
               obtain ⟨hI, f0, f1, f2, f3, f4, f5, f6, f7, f8, f9, f10, f11, f12, f13, f14, f15, f16, f17, f18, f19, f20, f21, f22, f23, f24, f25, f26, f27, f28, f29, f30⟩ := hΦ
               have g15 := f15 (hd 15 (by kernel_rfl))
               have ge : a.tmps[122]? = some (x 122) := hx 15 _ 122 rfl rfl (hd 15 (by kernel_rfl))
               rw [g15] at ge
               refine ⟨fun _ => ?_, fun h => absurd h (by rw [Go.RE.wanted_of rfl (Go.RE.yielded_of rfl rfl ge)]; decide)⟩
               have d20 := f20 (hd 20 (by kernel_rfl))
               have e127 : a.tmps[127]? = some (x 127) := hx 20 _ 127 rfl rfl (hd 20 (by kernel_rfl))
               rw [d20] at e127
               have d28 := f28 (hd 28 (by kernel_rfl))
               have e135 : a.tmps[135]? = some (x 135) := hx 28 _ 135 rfl rfl (hd 28 (by kernel_rfl))
               rw [d28] at e135
               clear hf hx hd
               go_simp
               refine hK _ _ ?_
               exact ⟨hI, fun h => f0 h, fun h => f1 h, fun h => f2 h, fun h => f3 h, fun h => f4 h, fun h => f5 h, fun h => f6 h, fun h => f7 h, fun h => f8 h, fun h => f9 h, fun h => f10 h, fun h => f11 h, fun h => f12 h, fun h => f13 h, fun h => f14 h, fun h => f15 h, fun h => f16 h, fun h => f17 h, fun h => f18 h, fun h => f19 h, fun h => f20 h, fun h => f21 h, fun h => f22 h, fun h => f23 h, fun h => f24 h, fun h => f25 h, fun h => f26 h, fun h => f27 h, fun h => f28 h, fun _ => rfl, fun h => f30 h⟩
              ·intro L x a wR K hL hd hf hx hΦ hK
               obtain ⟨hI, f0, f1, f2, f3, f4, f5, f6, f7, f8, f9, f10, f11, f12, f13, f14, f15, f16, f17, f18, f19, f20, f21, f22, f23, f24, f25, f26, f27, f28, f29, f30⟩ := hΦ
               refine ⟨fun _ => ?_, fun h => absurd h (by rw [Go.RE.wanted_none rfl]; decide)⟩
               have d15 := f15 (hd 15 (by kernel_rfl))
               have e122 : a.tmps[122]? = some (x 122) := hx 15 _ 122 rfl rfl (hd 15 (by kernel_rfl))
               rw [d15] at e122
               have d29 := f29 (hd 29 (by kernel_rfl))
               have e136 : a.tmps[136]? = some (x 136) := hx 29 _ 136 rfl rfl (hd 29 (by kernel_rfl))
               rw [d29] at e136
               clear hf hx hd
               go_simp
               refine hK _ _ ?_
               exact ⟨hI, fun h => f0 h, fun h => f1 h, fun h => f2 h, fun h => f3 h, fun h => f4 h, fun h => f5 h, fun h => f6 h, fun h => f7 h, fun h => f8 h, fun h => f9 h, fun h => f10 h, fun h => f11 h, fun h => f12 h, fun h => f13 h, fun h => f14 h, fun h => f15 h, fun h => f16 h, fun h => f17 h, fun h => f18 h, fun h => f19 h, fun h => f20 h, fun h => f21 h, fun h => f22 h, fun h => f23 h, fun h => f24 h, fun h => f25 h, fun h => f26 h, fun h => f27 h, fun h => f28 h, fun h => f29 h, fun _ => rfl⟩
              ·rintro x W ⟨hI, f0, f1, f2, f3, f4, f5, f6, f7, f8, f9, f10, f11, f12, f13, f14, f15, f16, f17, f18, f19, f20, f21, f22, f23, f24, f25, f26, f27, f28, f29, f30⟩
               simp only [Exit.then]
               go_step
               go_meet
               exact ⟨f30 rfl, hI⟩
            ·have HBB := Lib.hid (hB1 eb)
             have HRZ : Hid (((rv : Int) == 0) = true) := Lib.hid (by
              have := hp5.1 eb
              simp; omega)
             rcases ea : va.testBit k with _ | _
             ·have HAB := Lib.hid (hA0 ea)
              clear hA0 hA1 hB0 hB1 hAN hp4 hp5 hrv hqa hqb hrk hgk hr16 hv16 ea eb b0 hkn
              refine Go.RE.wp_region_eachg [107, 108, 109, 110, 111, 112, 113, 114, 115, 116, 117, 118, 119, 120, 121, 122, 123, 124, 125, 126, 127, 128, 129, 130, 131, 132, 133, 134, 135, 136, 137] (fun L x W => (Below wr.heap.size wr W) ∧ (L 0 = true → x 107 = .int .i64 (va : Int)) ∧ (L 1 = true → x 108 = .int .i64 (k : Int)) ∧ (L 2 = true → x 109 = .int .i64 (qa : Int)) ∧ (L 3 = true → x 110 = .int .i64 0) ∧ (L 4 = true → x 111 = .bool false) ∧ (L 5 = true → x 112 = .bool false) ∧ (L 6 = true → x 113 = undef) ∧ (L 7 = true → x 114 = undef) ∧ (L 8 = true → x 115 = undef) ∧ (L 9 = true → x 116 = undef) ∧ (L 10 = true → x 117 = undef) ∧ (L 11 = true → x 118 = undef) ∧ (L 12 = true → x 119 = undef) ∧ (L 13 = true → x 120 = undef) ∧ (L 14 = true → x 121 = .bool false) ∧ (L 15 = true → x 122 = .bool false) ∧ (L 16 = true → x 123 = .int .i64 (vb : Int)) ∧ (L 17 = true → x 124 = .int .i64 (k : Int)) ∧ (L 18 = true → x 125 = .int .i64 (qb : Int)) ∧ (L 19 = true → x 126 = .int .i64 1) ∧ (L 20 = true → x 127 = .bool true) ∧ (L 21 = true → x 128 = .pointer (some ⟨B7, 2, none⟩)) ∧ (L 22 = true → x 129 = .slice (some ⟨g, o, none⟩) r1 r2) ∧ (L 23 = true → x 130 = .int .i64 (k : Int)) ∧ (L 24 = true → x 131 = .pointer (some ⟨g, o + k, none⟩)) ∧ (L 25 = true → x 132 = .int .i64 (rk : Int)) ∧ (L 26 = true → x 133 = .int .i64 (va : Int)) ∧ (L 27 = true → x 134 = .int .i64 (rv : Int)) ∧ (L 28 = true → x 135 = .bool true) ∧ (L 29 = true → x 136 = .bool false) ∧ (L 30 = true → x 137 = .bool false)) (by kernel_rfl) (by kernel_rfl) (by kernel_rfl) ?_ ((Go.RE.Each.cons ?_ (Go.RE.Each.cons ?_ (Go.RE.Each.cons ?_ (Go.RE.Each.cons ?_ (Go.RE.Each.cons ?_ (Go.RE.Each.cons ?_ (Go.RE.Each.cons ?_ (Go.RE.Each.cons ?_ (Go.RE.Each.cons ?_ (Go.RE.Each.cons ?_ (Go.RE.Each.cons ?_ (Go.RE.Each.cons ?_ (Go.RE.Each.cons ?_ (Go.RE.Each.cons ?_ (Go.RE.Each.cons ?_ (Go.RE.Each.cons ?_ (Go.RE.Each.cons ?_ (Go.RE.Each.cons ?_ (Go.RE.Each.cons ?_ (Go.RE.Each.cons ?_ (Go.RE.Each.cons ?_ (Go.RE.Each.cons ?_ (Go.RE.Each.cons ?_ (Go.RE.Each.cons ?_ (Go.RE.Each.cons ?_ (Go.RE.Each.cons ?_ (Go.RE.Each.cons ?_ (Go.RE.Each.cons ?_ (Go.RE.Each.cons ?_ (Go.RE.Each.cons ?_ (Go.RE.Each.cons ?_ Go.RE.Each.nil)))))))))))))))))))))))))))))))) ?_
              ·exact fun x => ⟨bl_dr (Below.refl _ _), fun h => (by cases h), fun h => (by cases h), fun h => (by cases h), fun h => (by cases h), fun h => (by cases h), fun h => (by cases h), fun h => (by cases h), fun h => (by cases h), fun h => (by cases h), fun h => (by cases h), fun h => (by cases h), fun h => (by cases h), fun h => (by cases h), fun h => (by cases h), fun h => (by cases h), fun h => (by cases h), fun h => (by cases h), fun h => (by cases h), fun h => (by cases h), fun h => (by cases h), fun h => (by cases h), fun h => (by cases h), fun h => (by cases h), fun h => (by cases h), fun h => (by cases h), fun h => (by cases h), fun h => (by cases h), fun h => (by cases h), fun h => (by cases h), fun h => (by cases h), fun h => (by cases h)⟩
              ·intro L x a wR K hL hd hf hx hΦ hK
               obtain ⟨hI, f0, f1, f2, f3, f4, f5, f6, f7, f8, f9, f10, f11, f12, f13, f14, f15, f16, f17, f18, f19, f20, f21, f22, f23, f24, f25, f26, f27, f28, f29, f30⟩ := hΦ
               refine ⟨fun _ => ?_, fun h => absurd h (by rw [Go.RE.wanted_none rfl]; decide)⟩
               have e10 : a.tmps[10]? = some (.int .i64 (va : Int)) := hf 10 (of_decide_eq_true (by kernel_rfl))
               clear hf hx hd
               go_simp
               refine hK _ _ ?_
               exact ⟨hI, fun _ => rfl, fun h => f1 h, fun h => f2 h, fun h => f3 h, fun h => f4 h, fun h => f5 h, fun h => f6 h, fun h => f7 h, fun h => f8 h, fun h => f9 h, fun h => f10 h, fun h => f11 h, fun h => f12 h, fun h => f13 h, fun h => f14 h, fun h => f15 h, fun h => f16 h, fun h => f17 h, fun h => f18 h, fun h => f19 h, fun h => f20 h, fun h => f21 h, fun h => f22 h, fun h => f23 h, fun h => f24 h, fun h => f25 h, fun h => f26 h, fun h => f27 h, fun h => f28 h, fun h => f29 h, fun h => f30 h⟩
              ·intro L x a wR K hL hd hf hx hΦ hK
               obtain ⟨hI, f0, f1, f2, f3, f4, f5, f6, f7, f8, f9, f10, f11, f12, f13, f14, f15, f16, f17, f18, f19, f20, f21, f22, f23, f24, f25, f26, f27, f28, f29, f30⟩ := hΦ
               refine ⟨fun _ => ?_, fun h => absurd h (by rw [Go.RE.wanted_none rfl]; decide)⟩
               have e18 : a.tmps[18]? = some (.int .i64 (k : Int)) := hf 18 (of_decide_eq_true (by kernel_rfl))
               clear hf hx hd
               go_simp
               refine hK _ _ ?_
               exact ⟨hI, fun h => f0 h, fun _ => rfl, fun h => f2 h, fun h => f3 h, fun h => f4 h, fun h => f5 h, fun h => f6 h, fun h => f7 h, fun h => f8 h, fun h => f9 h, fun h => f10 h, fun h => f11 h, fun h => f12 h, fun h => f13 h, fun h => f14 h, fun h => f15 h, fun h => f16 h, fun h => f17 h, fun h => f18 h, fun h => f19 h, fun h => f20 h, fun h => f21 h, fun h => f22 h, fun h => f23 h, fun h => f24 h, fun h => f25 h, fun h => f26 h, fun h => f27 h, fun h => f28 h, fun h => f29 h, fun h => f30 h⟩
              ·intro L x a wR K hL hd hf hx hΦ hK
               obtain ⟨hI, f0, f1, f2, f3, f4, f5, f6, f7, f8, f9, f10, f11, f12, f13, f14, f15, f16, f17, f18, f19, f20, f21, f22, f23, f24, f25, f26, f27, f28, f29, f30⟩ := hΦ
               refine ⟨fun _ => ?_, fun h => absurd h (by rw [Go.RE.wanted_none rfl]; decide)⟩
               have d0 := f0 (hd 0 (by kernel_rfl))
               have e107 : a.tmps[107]? = some (x 107) := hx 0 _ 107 rfl rfl (hd 0 (by kernel_rfl))
               rw [d0] at e107
               have d1 := f1 (hd 1 (by kernel_rfl))
               have e108 : a.tmps[108]? = some (x 108) := hx 1 _ 108 rfl rfl (hd 1 (by kernel_rfl))
               rw [d1] at e108
               have sh1 := HSH.out.1
               have hmin := HMN.out
               have b0 := HK0.out
               clear hf hx hd
               go_simp
               refine hK _ _ ?_
               exact ⟨hI, fun h => f0 h, fun h => f1 h, fun _ => rfl, fun h => f3 h, fun h => f4 h, fun h => f5 h, fun h => f6 h, fun h => f7 h, fun h => f8 h, fun h => f9 h, fun h => f10 h, fun h => f11 h, fun h => f12 h, fun h => f13 h, fun h => f14 h, fun h => f15 h, fun h => f16 h, fun h => f17 h, fun h => f18 h, fun h => f19 h, fun h => f20 h, fun h => f21 h, fun h => f22 h, fun h => f23 h, fun h => f24 h, fun h => f25 h, fun h => f26 h, fun h => f27 h, fun h => f28 h, fun h => f29 h, fun h => f30 h⟩
              ·intro L x a wR K hL hd hf hx hΦ hK
               obtain ⟨hI, f0, f1, f2, f3, f4, f5, f6, f7, f8, f9, f10, f11, f12, f13, f14, f15, f16, f17, f18, f19, f20, f21, f22, f23, f24, f25, f26, f27, f28, f29, f30⟩ := hΦ
               refine ⟨fun _ => ?_, fun h => absurd h (by rw [Go.RE.wanted_none rfl]; decide)⟩
               have d2 := f2 (hd 2 (by kernel_rfl))
               have e109 : a.tmps[109]? = some (x 109) := hx 2 _ 109 rfl rfl (hd 2 (by kernel_rfl))
               rw [d2] at e109
               have e1 := HAB.out
               clear hf hx hd
               go_simp
               refine hK _ _ ?_
               exact ⟨hI, fun h => f0 h, fun h => f1 h, fun h => f2 h, fun _ => rfl, fun h => f4 h, fun h => f5 h, fun h => f6 h, fun h => f7 h, fun h => f8 h, fun h => f9 h, fun h => f10 h, fun h => f11 h, fun h => f12 h, fun h => f13 h, fun h => f14 h, fun h => f15 h, fun h => f16 h, fun h => f17 h, fun h => f18 h, fun h => f19 h, fun h => f20 h, fun h => f21 h, fun h => f22 h, fun h => f23 h, fun h => f24 h, fun h => f25 h, fun h => f26 h, fun h => f27 h, fun h => f28 h, fun h => f29 h, fun h => f30 h⟩
              ·intro L x a wR K hL hd hf hx hΦ hK
               obtain ⟨hI, f0, f1, f2, f3, f4, f5, f6, f7, f8, f9, f10, f11, f12, f13, f14, f15, f16, f17, f18, f19, f20, f21, f22, f23, f24, f25, f26, f27, f28, f29, f30⟩ := hΦ
               refine ⟨fun _ => ?_, fun h => absurd h (by rw [Go.RE.wanted_none rfl]; decide)⟩
               have d3 := f3 (hd 3 (by kernel_rfl))
               have e110 : a.tmps[110]? = some (x 110) := hx 3 _ 110 rfl rfl (hd 3 (by kernel_rfl))
               rw [d3] at e110
               clear hf hx hd
               go_simp
               refine hK _ _ ?_
               exact ⟨hI, fun h => f0 h, fun h => f1 h, fun h => f2 h, fun h => f3 h, fun _ => rfl, fun h => f5 h, fun h => f6 h, fun h => f7 h, fun h => f8 h, fun h => f9 h, fun h => f10 h, fun h => f11 h, fun h => f12 h, fun h => f13 h, fun h => f14 h, fun h => f15 h, fun h => f16 h, fun h => f17 h, fun h => f18 h, fun h => f19 h, fun h => f20 h, fun h => f21 h, fun h => f22 h, fun h => f23 h, fun h => f24 h, fun h => f25 h, fun h => f26 h, fun h => f27 h, fun h => f28 h, fun h => f29 h, fun h => f30 h⟩
              ·intro L x a wR K hL hd hf hx hΦ hK
               obtain ⟨hI, f0, f1, f2, f3, f4, f5, f6, f7, f8, f9, f10, f11, f12, f13, f14, f15, f16, f17, f18, f19, f20, f21, f22, f23, f24, f25, f26, f27, f28, f29, f30⟩ := hΦ
               refine ⟨fun _ => ?_, fun h => absurd h (by rw [Go.RE.wanted_none rfl]; decide)⟩
               have d4 := f4 (hd 4 (by kernel_rfl))
               have e111 : a.tmps[111]? = some (x 111) := hx 4 _ 111 rfl rfl (hd 4 (by kernel_rfl))
               rw [d4] at e111
               clear hf hx hd
               go_simp
               refine hK _ _ ?_
               exact ⟨hI, fun h => f0 h, fun h => f1 h, fun h => f2 h, fun h => f3 h, fun h => f4 h, fun _ => rfl, fun h => f6 h, fun h => f7 h, fun h => f8 h, fun h => f9 h, fun h => f10 h, fun h => f11 h, fun h => f12 h, fun h => f13 h, fun h => f14 h, fun h => f15 h, fun h => f16 h, fun h => f17 h, fun h => f18 h, fun h => f19 h, fun h => f20 h, fun h => f21 h, fun h => f22 h, fun h => f23 h, fun h => f24 h, fun h => f25 h, fun h => f26 h, fun h => f27 h, fun h => f28 h, fun h => f29 h, fun h => f30 h⟩
              ·intro L x a wR K hL hd hf hx hΦ hK
               obtain ⟨hI, f0, f1, f2, f3, f4, f5, f6, f7, f8, f9, f10, f11, f12, f13, f14, f15, f16, f17, f18, f19, f20, f21, f22, f23, f24, f25, f26, f27, f28, f29, f30⟩ := hΦ
               have g5 := f5 (hd 5 (by kernel_rfl))
               have ge : a.tmps[112]? = some (x 112) := hx 5 _ 112 rfl rfl (hd 5 (by kernel_rfl))
               rw [g5] at ge
               refine ⟨fun h => absurd h (by rw [Go.RE.wanted_of rfl (Go.RE.yielded_of rfl rfl ge)]; decide), fun _ => ?_⟩
               refine hK undef _ ?_
               exact ⟨hI, fun h => f0 h, fun h => f1 h, fun h => f2 h, fun h => f3 h, fun h => f4 h, fun h => f5 h, fun _ => rfl, fun h => f7 h, fun h => f8 h, fun h => f9 h, fun h => f10 h, fun h => f11 h, fun h => f12 h, fun h => f13 h, fun h => f14 h, fun h => f15 h, fun h => f16 h, fun h => f17 h, fun h => f18 h, fun h => f19 h, fun h => f20 h, fun h => f21 h, fun h => f22 h, fun h => f23 h, fun h => f24 h, fun h => f25 h, fun h => f26 h, fun h => f27 h, fun h => f28 h, fun h => f29 h, fun h => f30 h⟩
              ·intro L x a wR K hL hd hf hx hΦ hK
               obtain ⟨hI, f0, f1, f2, f3, f4, f5, f6, f7, f8, f9, f10, f11, f12, f13, f14, f15, f16, f17, f18, f19, f20, f21, f22, f23, f24, f25, f26, f27, f28, f29, f30⟩ := hΦ
               have g5 := f5 (hd 5 (by kernel_rfl))
               have ge : a.tmps[112]? = some (x 112) := hx 5 _ 112 rfl rfl (hd 5 (by kernel_rfl))
               rw [g5] at ge
               refine ⟨fun h => absurd h (by rw [Go.RE.wanted_of rfl (Go.RE.yielded_of rfl rfl ge)]; decide), fun _ => ?_⟩
               refine hK undef _ ?_
               exact ⟨hI, fun h => f0 h, fun h => f1 h, fun h => f2 h, fun h => f3 h, fun h => f4 h, fun h => f5 h, fun h => f6 h, fun _ => rfl, fun h => f8 h, fun h => f9 h, fun h => f10 h, fun h => f11 h, fun h => f12 h, fun h => f13 h, fun h => f14 h, fun h => f15 h, fun h => f16 h, fun h => f17 h, fun h => f18 h, fun h => f19 h, fun h => f20 h, fun h => f21 h, fun h => f22 h, fun h => f23 h, fun h => f24 h, fun h => f25 h, fun h => f26 h, fun h => f27 h, fun h => f28 h, fun h => f29 h, fun h => f30 h⟩
              ·intro L x a wR K hL hd hf hx hΦ hK
               obtain ⟨hI, f0, f1, f2, f3, f4, f5, f6, f7, f8, f9, f10, f11, f12, f13, f14, f15, f16, f17, f18, f19, f20, f21, f22, f23, f24, f25, f26, f27, f28, f29, f30⟩ := hΦ
               have g5 := f5 (hd 5 (by kernel_rfl))
               have ge : a.tmps[112]? = some (x 112) := hx 5 _ 112 rfl rfl (hd 5 (by kernel_rfl))
               rw [g5] at ge
               refine ⟨fun h => absurd h (by rw [Go.RE.wanted_of rfl (Go.RE.yielded_of rfl rfl ge)]; decide), fun _ => ?_⟩
               refine hK undef _ ?_
               exact ⟨hI, fun h => f0 h, fun h => f1 h, fun h => f2 h, fun h => f3 h, fun h => f4 h, fun h => f5 h, fun h => f6 h, fun h => f7 h, fun _ => rfl, fun h => f9 h, fun h => f10 h, fun h => f11 h, fun h => f12 h, fun h => f13 h, fun h => f14 h, fun h => f15 h, fun h => f16 h, fun h => f17 h, fun h => f18 h, fun h => f19 h, fun h => f20 h, fun h => f21 h, fun h => f22 h, fun h => f23 h, fun h => f24 h, fun h => f25 h, fun h => f26 h, fun h => f27 h, fun h => f28 h, fun h => f29 h, fun h => f30 h⟩
              ·intro L x a wR K hL hd hf hx hΦ hK
               obtain ⟨hI, f0, f1, f2, f3, f4, f5, f6, f7, f8, f9, f10, f11, f12, f13, f14, f15, f16, f17, f18, f19, f20, f21, f22, f23, f24, f25, f26, f27, f28, f29, f30⟩ := hΦ
               have g5 := f5 (hd 5 (by kernel_rfl))
               have ge : a.tmps[112]? = some (x 112) := hx 5 _ 112 rfl rfl (hd 5 (by kernel_rfl))
               rw [g5] at ge
               refine ⟨fun h => absurd h (by rw [Go.RE.wanted_of rfl (Go.RE.yielded_of rfl rfl ge)]; decide), fun _ => ?_⟩
               refine hK undef _ ?_
               exact ⟨hI, fun h => f0 h, fun h => f1 h, fun h => f2 h, fun h => f3 h, fun h => f4 h, fun h => f5 h, fun h => f6 h, fun h => f7 h, fun h => f8 h, fun _ => rfl, fun h => f10 h, fun h => f11 h, fun h => f12 h, fun h => f13 h, fun h => f14 h, fun h => f15 h, fun h => f16 h, fun h => f17 h, fun h => f18 h, fun h => f19 h, fun h => f20 h, fun h => f21 h, fun h => f22 h, fun h => f23 h, fun h => f24 h, fun h => f25 h, fun h => f26 h, fun h => f27 h, fun h => f28 h, fun h => f29 h, fun h => f30 h⟩
              ·intro L x a wR K hL hd hf hx hΦ hK
               obtain ⟨hI, f0, f1, f2, f3, f4, f5, f6, f7, f8, f9, f10, f11, f12, f13, f14, f15, f16, f17, f18, f19, f20, f21, f22, f23, f24, f25, f26, f27, f28, f29, f30⟩ := hΦ
               have g5 := f5 (hd 5 (by kernel_rfl))
               have ge : a.tmps[112]? = some (x 112) := hx 5 _ 112 rfl rfl (hd 5 (by kernel_rfl))
               rw [g5] at ge
               refine ⟨fun h => absurd h (by rw [Go.RE.wanted_of rfl (Go.RE.yielded_of rfl rfl ge)]; decide), fun _ => ?_⟩
               refine hK undef _ ?_
               exact ⟨hI, fun h => f0 h, fun h => f1 h, fun h => f2 h, fun h => f3 h, fun h => f4 h, fun h => f5 h, fun h => f6 h, fun h => f7 h, fun h => f8 h, fun h => f9 h, fun _ => rfl, fun h => f11 h, fun h => f12 h, fun h => f13 h, fun h => f14 h, fun h => f15 h, fun h => f16 h, fun h => f17 h, fun h => f18 h, fun h => f19 h, fun h => f20 h, fun h => f21 h, fun h => f22 h, fun h => f23 h, fun h => f24 h, fun h => f25 h, fun h => f26 h, fun h => f27 h, fun h => f28 h, fun h => f29 h, fun h => f30 h⟩
              ·intro L x a wR K hL hd hf hx hΦ hK
               obtain ⟨hI, f0, f1, f2, f3, f4, f5, f6, f7, f8, f9, f10, f11, f12, f13, f14, f15, f16, f17, f18, f19, f20, f21, f22, f23, f24, f25, f26, f27, f28, f29, f30⟩ := hΦ
               have g5 := f5 (hd 5 (by kernel_rfl))
               have ge : a.tmps[112]? = some (x 112) := hx 5 _ 112 rfl rfl (hd 5 (by kernel_rfl))
               rw [g5] at ge
               refine ⟨fun h => absurd h (by rw [Go.RE.wanted_of rfl (Go.RE.yielded_of rfl rfl ge)]; decide), fun _ => ?_⟩
               refine hK undef _ ?_
               exact ⟨hI, fun h => f0 h, fun h => f1 h, fun h => f2 h, fun h => f3 h, fun h => f4 h, fun h => f5 h, fun h => f6 h, fun h => f7 h, fun h => f8 h, fun h => f9 h, fun h => f10 h, fun _ => rfl, fun h => f12 h, fun h => f13 h, fun h => f14 h, fun h => f15 h, fun h => f16 h, fun h => f17 h, fun h => f18 h, fun h => f19 h, fun h => f20 h, fun h => f21 h, fun h => f22 h, fun h => f23 h, fun h => f24 h, fun h => f25 h, fun h => f26 h, fun h => f27 h, fun h => f28 h, fun h => f29 h, fun h => f30 h⟩
              ·intro L x a wR K hL hd hf hx hΦ hK
               obtain ⟨hI, f0, f1, f2, f3, f4, f5, f6, f7, f8, f9, f10, f11, f12, f13, f14, f15, f16, f17, f18, f19, f20, f21, f22, f23, f24, f25, f26, f27, f28, f29, f30⟩ := hΦ
               have g5 := f5 (hd 5 (by kernel_rfl))
               have ge : a.tmps[112]? = some (x 112) := hx 5 _ 112 rfl rfl (hd 5 (by kernel_rfl))
               rw [g5] at ge
               refine ⟨fun h => absurd h (by rw [Go.RE.wanted_of rfl (Go.RE.yielded_of rfl rfl ge)]; decide), fun _ => ?_⟩
               refine hK undef _ ?_
               exact ⟨hI, fun h => f0 h, fun h => f1 h, fun h => f2 h, fun h => f3 h, fun h => f4 h, fun h => f5 h, fun h => f6 h, fun h => f7 h, fun h => f8 h, fun h => f9 h, fun h => f10 h, fun h => f11 h, fun _ => rfl, fun h => f13 h, fun h => f14 h, fun h => f15 h, fun h => f16 h, fun h => f17 h, fun h => f18 h, fun h => f19 h, fun h => f20 h, fun h => f21 h, fun h => f22 h, fun h => f23 h, fun h => f24 h, fun h => f25 h, fun h => f26 h, fun h => f27 h, fun h => f28 h, fun h => f29 h, fun h => f30 h⟩
              ·intro L x a wR K hL hd hf hx hΦ hK
               obtain ⟨hI, f0, f1, f2, f3, f4, f5, f6, f7, f8, f9, f10, f11, f12, f13, f14, f15, f16, f17, f18, f19, f20, f21, f22, f23, f24, f25, f26, f27, f28, f29, f30⟩ := hΦ
               have g5 := f5 (hd 5 (by kernel_rfl))
               have ge : a.tmps[112]? = some (x 112) := hx 5 _ 112 rfl rfl (hd 5 (by kernel_rfl))
               rw [g5] at ge
               refine ⟨fun h => absurd h (by rw [Go.RE.wanted_of rfl (Go.RE.yielded_of rfl rfl ge)]; decide), fun _ => ?_⟩
               refine hK undef _ ?_
               exact ⟨hI, fun h => f0 h, fun h => f1 h, fun h => f2 h, fun h => f3 h, fun h => f4 h, fun h => f5 h, fun h => f6 h, fun h => f7 h, fun h => f8 h, fun h => f9 h, fun h => f10 h, fun h => f11 h, fun h => f12 h, fun _ => rfl, fun h => f14 h, fun h => f15 h, fun h => f16 h, fun h => f17 h, fun h => f18 h, fun h => f19 h, fun h => f20 h, fun h => f21 h, fun h => f22 h, fun h => f23 h, fun h => f24 h, fun h => f25 h, fun h => f26 h, fun h => f27 h, fun h => f28 h, fun h => f29 h, fun h => f30 h⟩
              ·intro L x a wR K hL hd hf hx hΦ hK
               obtain ⟨hI, f0, f1, f2, f3, f4, f5, f6, f7, f8, f9, f10, f11, f12, f13, f14, f15, f16, f17, f18, f19, f20, f21, f22, f23, f24, f25, f26, f27, f28, f29, f30⟩ := hΦ
               refine ⟨fun _ => ?_, fun h => absurd h (by rw [Go.RE.wanted_none rfl]; decide)⟩
               have d5 := f5 (hd 5 (by kernel_rfl))
               have e112 : a.tmps[112]? = some (x 112) := hx 5 _ 112 rfl rfl (hd 5 (by kernel_rfl))
               rw [d5] at e112
               have d13 := f13 (hd 13 (by kernel_rfl))
               have e120 : a.tmps[120]? = some (x 120) := hx 13 _ 120 rfl rfl (hd 13 (by kernel_rfl))
               rw [d13] at e120
               clear hf hx hd
               go_simp
               refine hK _ _ ?_
               exact ⟨hI, fun h => f0 h, fun h => f1 h, fun h => f2 h, fun h => f3 h, fun h => f4 h, fun h => f5 h, fun h => f6 h, fun h => f7 h, fun h => f8 h, fun h => f9 h, fun h => f10 h, fun h => f11 h, fun h => f12 h, fun h => f13 h, fun _ => rfl, fun h => f15 h, fun h => f16 h, fun h => f17 h, fun h => f18 h, fun h => f19 h, fun h => f20 h, fun h => f21 h, fun h => f22 h, fun h => f23 h, fun h => f24 h, fun h => f25 h, fun h => f26 h, fun h => f27 h, fun h => f28 h, fun h => f29 h, fun h => f30 h⟩
              ·intro L x a wR K hL hd hf hx hΦ hK
               obtain ⟨hI, f0, f1, f2, f3, f4, f5, f6, f7, f8, f9, f10, f11, f12, f13, f14, f15, f16, f17, f18, f19, f20, f21, f22, f23, f24, f25, f26, f27, f28, f29, f30⟩ := hΦ
               refine ⟨fun _ => ?_, fun h => absurd h (by rw [Go.RE.wanted_none rfl]; decide)⟩
               have d14 := f14 (hd 14 (by kernel_rfl))
               have e121 : a.tmps[121]? = some (x 121) := hx 14 _ 121 rfl rfl (hd 14 (by kernel_rfl))
               rw [d14] at e121
               clear hf hx hd
               go_simp
               refine hK _ _ ?_
               exact ⟨hI, fun h => f0 h, fun h => f1 h, fun h => f2 h, fun h => f3 h, fun h => f4 h, fun h => f5 h, fun h => f6 h, fun h => f7 h, fun h => f8 h, fun h => f9 h, fun h => f10 h, fun h => f11 h, fun h => f12 h, fun h => f13 h, fun h => f14 h, fun _ => rfl, fun h => f16 h, fun h => f17 h, fun h => f18 h, fun h => f19 h, fun h => f20 h, fun h => f21 h, fun h => f22 h, fun h => f23 h, fun h => f24 h, fun h => f25 h, fun h => f26 h, fun h => f27 h, fun h => f28 h, fun h => f29 h, fun h => f30 h⟩
              ·intro L x a wR K hL hd hf hx hΦ hK
               obtain ⟨hI, f0, f1, f2, f3, f4, f5, f6, f7, f8, f9, f10, f11, f12, f13, f14, f15, f16, f17, f18, f19, f20, f21, f22, f23, f24, f25, f26, f27, f28, f29, f30⟩ := hΦ
               have g15 := f15 (hd 15 (by kernel_rfl))
               have ge : a.tmps[122]? = some (x 122) := hx 15 _ 122 rfl rfl (hd 15 (by kernel_rfl))
               rw [g15] at ge
               refine ⟨fun _ => ?_, fun h => absurd h (by rw [Go.RE.wanted_of rfl (Go.RE.yielded_of rfl rfl ge)]; decide)⟩
               have e12 : a.tmps[12]? = some (.int .i64 (vb : Int)) := hf 12 (of_decide_eq_true (by kernel_rfl))
               clear hf hx hd
               go_simp
               refine hK _ _ ?_
               exact ⟨hI, fun h => f0 h, fun h => f1 h, fun h => f2 h, fun h => f3 h, fun h => f4 h, fun h => f5 h, fun h => f6 h, fun h => f7 h, fun h => f8 h, fun h => f9 h, fun h => f10 h, fun h => f11 h, fun h => f12 h, fun h => f13 h, fun h => f14 h, fun h => f15 h, fun _ => rfl, fun h => f17 h, fun h => f18 h, fun h => f19 h, fun h => f20 h, fun h => f21 h, fun h => f22 h, fun h => f23 h, fun h => f24 h, fun h => f25 h, fun h => f26 h, fun h => f27 h, fun h => f28 h, fun h => f29 h, fun h => f30 h⟩
              ·intro L x a wR K hL hd hf hx hΦ hK
               obtain ⟨hI, f0, f1, f2, f3, f4, f5, f6, f7, f8, f9, f10, f11, f12, f13, f14, f15, f16, f17, f18, f19, f20, f21, f22, f23, f24, f25, f26, f27, f28, f29, f30⟩ := hΦ
               have g15 := f15 (hd 15 (by kernel_rfl))
               have ge : a.tmps[122]? = some (x 122) := hx 15 _ 122 rfl rfl (hd 15 (by kernel_rfl))
               rw [g15] at ge
               refine ⟨fun _ => ?_, fun h => absurd h (by rw [Go.RE.wanted_of rfl (Go.RE.yielded_of rfl rfl ge)]; decide)⟩
               have e18 : a.tmps[18]? = some (.int .i64 (k : Int)) := hf 18 (of_decide_eq_true (by kernel_rfl))
               clear hf hx hd
               go_simp
               refine hK _ _ ?_
               exact ⟨hI, fun h => f0 h, fun h => f1 h, fun h => f2 h, fun h => f3 h, fun h => f4 h, fun h => f5 h, fun h => f6 h, fun h => f7 h, fun h => f8 h, fun h => f9 h, fun h => f10 h, fun h => f11 h, fun h => f12 h, fun h => f13 h, fun h => f14 h, fun h => f15 h, fun h => f16 h, fun _ => rfl, fun h => f18 h, fun h => f19 h, fun h => f20 h, fun h => f21 h, fun h => f22 h, fun h => f23 h, fun h => f24 h, fun h => f25 h, fun h => f26 h, fun h => f27 h, fun h => f28 h, fun h => f29 h, fun h => f30 h⟩
              ·intro L x a wR K hL hd hf hx hΦ hK
               obtain ⟨hI, f0, f1, f2, f3, f4, f5, f6, f7, f8, f9, f10, f11, f12, f13, f14, f15, f16, f17, f18, f19, f20, f21, f22, f23, f24, f25, f26, f27, f28, f29, f30⟩ := hΦ
               have g15 := f15 (hd 15 (by kernel_rfl))
               have ge : a.tmps[122]? = some (x 122) := hx 15 _ 122 rfl rfl (hd 15 (by kernel_rfl))
               rw [g15] at ge
               refine ⟨fun _ => ?_, fun h => absurd h (by rw [Go.RE.wanted_of rfl (Go.RE.yielded_of rfl rfl ge)]; decide)⟩
               have d16 := f16 (hd 16 (by kernel_rfl))
               have e123 : a.tmps[123]? = some (x 123) := hx 16 _ 123 rfl rfl (hd 16 (by kernel_rfl))
               rw [d16] at e123
               have d17 := f17 (hd 17 (by kernel_rfl))
               have e124 : a.tmps[124]? = some (x 124) := hx 17 _ 124 rfl rfl (hd 17 (by kernel_rfl))
               rw [d17] at e124
               have sh1 := HSH.out.2
               have hmin := HMN.out
               have b0 := HK0.out
               clear hf hx hd
               go_simp
               refine hK _ _ ?_
               exact ⟨hI, fun h => f0 h, fun h => f1 h, fun h => f2 h, fun h => f3 h, fun h => f4 h, fun h => f5 h, fun h => f6 h, fun h => f7 h, fun h => f8 h, fun h => f9 h, fun h => f10 h, fun h => f11 h, fun h => f12 h, fun h => f13 h, fun h => f14 h, fun h => f15 h, fun h => f16 h, fun h => f17 h, fun _ => rfl, fun h => f19 h, fun h => f20 h, fun h => f21 h, fun h => f22 h, fun h => f23 h, fun h => f24 h, fun h => f25 h, fun h => f26 h, fun h => f27 h, fun h => f28 h, fun h => f29 h, fun h => f30 h⟩
              ·intro L x a wR K hL hd hf hx hΦ hK
               obtain ⟨hI, f0, f1, f2, f3, f4, f5, f6, f7, f8, f9, f10, f11, f12, f13, f14, f15, f16, f17, f18, f19, f20, f21, f22, f23, f24, f25, f26, f27, f28, f29, f30⟩ := hΦ
               have g15 := f15 (hd 15 (by kernel_rfl))
               have ge : a.tmps[122]? = some (x 122) := hx 15 _ 122 rfl rfl (hd 15 (by kernel_rfl))
               rw [g15] at ge
               refine ⟨fun _ => ?_, fun h => absurd h (by rw [Go.RE.wanted_of rfl (Go.RE.yielded_of rfl rfl ge)]; decide)⟩
               have d18 := f18 (hd 18 (by kernel_rfl))
               have e125 : a.tmps[125]? = some (x 125) := hx 18 _ 125 rfl rfl (hd 18 (by kernel_rfl))
               rw [d18] at e125
               have e1 := HBB.out
               clear hf hx hd
               go_simp
               refine hK _ _ ?_
               exact ⟨hI, fun h => f0 h, fun h => f1 h, fun h => f2 h, fun h => f3 h, fun h => f4 h, fun h => f5 h, fun h => f6 h, fun h => f7 h, fun h => f8 h, fun h => f9 h, fun h => f10 h, fun h => f11 h, fun h => f12 h, fun h => f13 h, fun h => f14 h, fun h => f15 h, fun h => f16 h, fun h => f17 h, fun h => f18 h, fun _ => rfl, fun h => f20 h, fun h => f21 h, fun h => f22 h, fun h => f23 h, fun h => f24 h, fun h => f25 h, fun h => f26 h, fun h => f27 h, fun h => f28 h, fun h => f29 h, fun h => f30 h⟩
              ·intro L x a wR K hL hd hf hx hΦ hK
               obtain ⟨hI, f0, f1, f2, f3, f4, f5, f6, f7, f8, f9, f10, f11, f12, f13, f14, f15, f16, f17, f18, f19, f20, f21, f22, f23, f24, f25, f26, f27, f28, f29, f30⟩ := hΦ
               have g15 := f15 (hd 15 (by kernel_rfl))
               have ge : a.tmps[122]? = some (x 122) := hx 15 _ 122 rfl rfl (hd 15 (by kernel_rfl))
               rw [g15] at ge
               refine ⟨fun _ => ?_, fun h => absurd h (by rw [Go.RE.wanted_of rfl (Go.RE.yielded_of rfl rfl ge)]; decide)⟩
               have d19 := f19 (hd 19 (by kernel_rfl))
               have e126 : a.tmps[126]? = some (x 126) := hx 19 _ 126 rfl rfl (hd 19 (by kernel_rfl))
               rw [d19] at e126
               clear hf hx hd
               go_simp
               refine hK _ _ ?_
               exact ⟨hI, fun h => f0 h, fun h => f1 h, fun h => f2 h, fun h => f3 h, fun h => f4 h, fun h => f5 h, fun h => f6 h, fun h => f7 h, fun h => f8 h, fun h => f9 h, fun h => f10 h, fun h => f11 h, fun h => f12 h, fun h => f13 h, fun h => f14 h, fun h => f15 h, fun h => f16 h, fun h => f17 h, fun h => f18 h, fun h => f19 h, fun _ => rfl, fun h => f21 h, fun h => f22 h, fun h => f23 h, fun h => f24 h, fun h => f25 h, fun h => f26 h, fun h => f27 h, fun h => f28 h, fun h => f29 h, fun h => f30 h⟩
              ·intro L x a wR K hL hd hf hx hΦ hK
               obtain ⟨hI, f0, f1, f2, f3, f4, f5, f6, f7, f8, f9, f10, f11, f12, f13, f14, f15, f16, f17, f18, f19, f20, f21, f22, f23, f24, f25, f26, f27, f28, f29, f30⟩ := hΦ
               have g15 := f15 (hd 15 (by kernel_rfl))
               have ge : a.tmps[122]? = some (x 122) := hx 15 _ 122 rfl rfl (hd 15 (by kernel_rfl))
               rw [g15] at ge
               refine ⟨fun _ => ?_, fun h => absurd h (by rw [Go.RE.wanted_of rfl (Go.RE.yielded_of rfl rfl ge)]; decide)⟩
               have e7 : a.tmps[7]? = some (.pointer (some ⟨B7, 0, none⟩)) := hf 7 (of_decide_eq_true (by kernel_rfl))
               clear hf hx hd
               go_simp
               refine hK _ _ ?_
               exact ⟨hI, fun h => f0 h, fun h => f1 h, fun h => f2 h, fun h => f3 h, fun h => f4 h, fun h => f5 h, fun h => f6 h, fun h => f7 h, fun h => f8 h, fun h => f9 h, fun h => f10 h, fun h => f11 h, fun h => f12 h, fun h => f13 h, fun h => f14 h, fun h => f15 h, fun h => f16 h, fun h => f17 h, fun h => f18 h, fun h => f19 h, fun h => f20 h, fun _ => rfl, fun h => f22 h, fun h => f23 h, fun h => f24 h, fun h => f25 h, fun h => f26 h, fun h => f27 h, fun h => f28 h, fun h => f29 h, fun h => f30 h⟩
              ·intro L x a wR K hL hd hf hx hΦ hK
               obtain ⟨hI, f0, f1, f2, f3, f4, f5, f6, f7, f8, f9, f10, f11, f12, f13, f14, f15, f16, f17, f18, f19, f20, f21, f22, f23, f24, f25, f26, f27, f28, f29, f30⟩ := hΦ
               have g15 := f15 (hd 15 (by kernel_rfl))
               have ge : a.tmps[122]? = some (x 122) := hx 15 _ 122 rfl rfl (hd 15 (by kernel_rfl))
               rw [g15] at ge
               refine ⟨fun _ => ?_, fun h => absurd h (by rw [Go.RE.wanted_of rfl (Go.RE.yielded_of rfl rfl ge)]; decide)⟩
               have d21 := f21 (hd 21 (by kernel_rfl))
               have e128 : a.tmps[128]? = some (x 128) := hx 21 _ 128 rfl rfl (hd 21 (by kernel_rfl))
               rw [d21] at e128
               have c := HM2.out _ hI
               clear hf hx hd
               go_simp
               refine hK _ _ ?_
               exact ⟨hI, fun h => f0 h, fun h => f1 h, fun h => f2 h, fun h => f3 h, fun h => f4 h, fun h => f5 h, fun h => f6 h, fun h => f7 h, fun h => f8 h, fun h => f9 h, fun h => f10 h, fun h => f11 h, fun h => f12 h, fun h => f13 h, fun h => f14 h, fun h => f15 h, fun h => f16 h, fun h => f17 h, fun h => f18 h, fun h => f19 h, fun h => f20 h, fun h => f21 h, fun _ => rfl, fun h => f23 h, fun h => f24 h, fun h => f25 h, fun h => f26 h, fun h => f27 h, fun h => f28 h, fun h => f29 h, fun h => f30 h⟩
              ·intro L x a wR K hL hd hf hx hΦ hK
               obtain ⟨hI, f0, f1, f2, f3, f4, f5, f6, f7, f8, f9, f10, f11, f12, f13, f14, f15, f16, f17, f18, f19, f20, f21, f22, f23, f24, f25, f26, f27, f28, f29, f30⟩ := hΦ
               have g15 := f15 (hd 15 (by kernel_rfl))
               have ge : a.tmps[122]? = some (x 122) := hx 15 _ 122 rfl rfl (hd 15 (by kernel_rfl))
               rw [g15] at ge
               refine ⟨fun _ => ?_, fun h => absurd h (by rw [Go.RE.wanted_of rfl (Go.RE.yielded_of rfl rfl ge)]; decide)⟩
               have e18 : a.tmps[18]? = some (.int .i64 (k : Int)) := hf 18 (of_decide_eq_true (by kernel_rfl))
               clear hf hx hd
               go_simp
               refine hK _ _ ?_
               exact ⟨hI, fun h => f0 h, fun h => f1 h, fun h => f2 h, fun h => f3 h, fun h => f4 h, fun h => f5 h, fun h => f6 h, fun h => f7 h, fun h => f8 h, fun h => f9 h, fun h => f10 h, fun h => f11 h, fun h => f12 h, fun h => f13 h, fun h => f14 h, fun h => f15 h, fun h => f16 h, fun h => f17 h, fun h => f18 h, fun h => f19 h, fun h => f20 h, fun h => f21 h, fun h => f22 h, fun _ => rfl, fun h => f24 h, fun h => f25 h, fun h => f26 h, fun h => f27 h, fun h => f28 h, fun h => f29 h, fun h => f30 h⟩
              ·intro L x a wR K hL hd hf hx hΦ hK
               obtain ⟨hI, f0, f1, f2, f3, f4, f5, f6, f7, f8, f9, f10, f11, f12, f13, f14, f15, f16, f17, f18, f19, f20, f21, f22, f23, f24, f25, f26, f27, f28, f29, f30⟩ := hΦ
               have g15 := f15 (hd 15 (by kernel_rfl))
               have ge : a.tmps[122]? = some (x 122) := hx 15 _ 122 rfl rfl (hd 15 (by kernel_rfl))
               rw [g15] at ge
               refine ⟨fun _ => ?_, fun h => absurd h (by rw [Go.RE.wanted_of rfl (Go.RE.yielded_of rfl rfl ge)]; decide)⟩
               have d22 := f22 (hd 22 (by kernel_rfl))
               have e129 : a.tmps[129]? = some (x 129) := hx 22 _ 129 rfl rfl (hd 22 (by kernel_rfl))
               rw [d22] at e129
               have d23 := f23 (hd 23 (by kernel_rfl))
               have e130 : a.tmps[130]? = some (x 130) := hx 23 _ 130 rfl rfl (hd 23 (by kernel_rfl))
               rw [d23] at e130
               have l1 := HK0.out
               have l2 := HK1.out
               clear hf hx hd
               go_simp
               refine hK _ _ ?_
               exact ⟨hI, fun h => f0 h, fun h => f1 h, fun h => f2 h, fun h => f3 h, fun h => f4 h, fun h => f5 h, fun h => f6 h, fun h => f7 h, fun h => f8 h, fun h => f9 h, fun h => f10 h, fun h => f11 h, fun h => f12 h, fun h => f13 h, fun h => f14 h, fun h => f15 h, fun h => f16 h, fun h => f17 h, fun h => f18 h, fun h => f19 h, fun h => f20 h, fun h => f21 h, fun h => f22 h, fun h => f23 h, fun _ => rfl, fun h => f25 h, fun h => f26 h, fun h => f27 h, fun h => f28 h, fun h => f29 h, fun h => f30 h⟩
              ·intro L x a wR K hL hd hf hx hΦ hK
               obtain ⟨hI, f0, f1, f2, f3, f4, f5, f6, f7, f8, f9, f10, f11, f12, f13, f14, f15, f16, f17, f18, f19, f20, f21, f22, f23, f24, f25, f26, f27, f28, f29, f30⟩ := hΦ
               have g15 := f15 (hd 15 (by kernel_rfl))
               have ge : a.tmps[122]? = some (x 122) := hx 15 _ 122 rfl rfl (hd 15 (by kernel_rfl))
               rw [g15] at ge
               refine ⟨fun _ => ?_, fun h => absurd h (by rw [Go.RE.wanted_of rfl (Go.RE.yielded_of rfl rfl ge)]; decide)⟩
               have d24 := f24 (hd 24 (by kernel_rfl))
               have e131 : a.tmps[131]? = some (x 131) := hx 24 _ 131 rfl rfl (hd 24 (by kernel_rfl))
               rw [d24] at e131
               have c := HRK.out _ hI
               clear hf hx hd
               go_simp
               refine hK _ _ ?_
               exact ⟨hI, fun h => f0 h, fun h => f1 h, fun h => f2 h, fun h => f3 h, fun h => f4 h, fun h => f5 h, fun h => f6 h, fun h => f7 h, fun h => f8 h, fun h => f9 h, fun h => f10 h, fun h => f11 h, fun h => f12 h, fun h => f13 h, fun h => f14 h, fun h => f15 h, fun h => f16 h, fun h => f17 h, fun h => f18 h, fun h => f19 h, fun h => f20 h, fun h => f21 h, fun h => f22 h, fun h => f23 h, fun h => f24 h, fun _ => rfl, fun h => f26 h, fun h => f27 h, fun h => f28 h, fun h => f29 h, fun h => f30 h⟩
              ·intro L x a wR K hL hd hf hx hΦ hK
               obtain ⟨hI, f0, f1, f2, f3, f4, f5, f6, f7, f8, f9, f10, f11, f12, f13, f14, f15, f16, f17, f18, f19, f20, f21, f22, f23, f24, f25, f26, f27, f28, f29, f30⟩ := hΦ
               have g15 := f15 (hd 15 (by kernel_rfl))
               have ge : a.tmps[122]? = some (x 122) := hx 15 _ 122 rfl rfl (hd 15 (by kernel_rfl))
               rw [g15] at ge
               refine ⟨fun _ => ?_, fun h => absurd h (by rw [Go.RE.wanted_of rfl (Go.RE.yielded_of rfl rfl ge)]; decide)⟩
               have e10 : a.tmps[10]? = some (.int .i64 (va : Int)) := hf 10 (of_decide_eq_true (by kernel_rfl))
               clear hf hx hd
               go_simp
               refine hK _ _ ?_
               exact ⟨hI, fun h => f0 h, fun h => f1 h, fun h => f2 h, fun h => f3 h, fun h => f4 h, fun h => f5 h, fun h => f6 h, fun h => f7 h, fun h => f8 h, fun h => f9 h, fun h => f10 h, fun h => f11 h, fun h => f12 h, fun h => f13 h, fun h => f14 h, fun h => f15 h, fun h => f16 h, fun h => f17 h, fun h => f18 h, fun h => f19 h, fun h => f20 h, fun h => f21 h, fun h => f22 h, fun h => f23 h, fun h => f24 h, fun h => f25 h, fun _ => rfl, fun h => f27 h, fun h => f28 h, fun h => f29 h, fun h => f30 h⟩
              ·intro L x a wR K hL hd hf hx hΦ hK
               obtain ⟨hI, f0, f1, f2, f3, f4, f5, f6, f7, f8, f9, f10, f11, f12, f13, f14, f15, f16, f17, f18, f19, f20, f21, f22, f23, f24, f25, f26, f27, f28, f29, f30⟩ := hΦ
               have g15 := f15 (hd 15 (by kernel_rfl))
               have ge : a.tmps[122]? = some (x 122) := hx 15 _ 122 rfl rfl (hd 15 (by kernel_rfl))
               rw [g15] at ge
               refine ⟨fun _ => ?_, fun h => absurd h (by rw [Go.RE.wanted_of rfl (Go.RE.yielded_of rfl rfl ge)]; decide)⟩
               have d25 := f25 (hd 25 (by kernel_rfl))
               have e132 : a.tmps[132]? = some (x 132) := hx 25 _ 132 rfl rfl (hd 25 (by kernel_rfl))
               rw [d25] at e132
               have d26 := f26 (hd 26 (by kernel_rfl))
               have e133 : a.tmps[133]? = some (x 133) := hx 26 _ 133 rfl rfl (hd 26 (by kernel_rfl))
               rw [d26] at e133
               have e1 := HRV.out
               clear hf hx hd
               go_simp
               refine hK _ _ ?_
               exact ⟨hI, fun h => f0 h, fun h => f1 h, fun h => f2 h, fun h => f3 h, fun h => f4 h, fun h => f5 h, fun h => f6 h, fun h => f7 h, fun h => f8 h, fun h => f9 h, fun h => f10 h, fun h => f11 h, fun h => f12 h, fun h => f13 h, fun h => f14 h, fun h => f15 h, fun h => f16 h, fun h => f17 h, fun h => f18 h, fun h => f19 h, fun h => f20 h, fun h => f21 h, fun h => f22 h, fun h => f23 h, fun h => f24 h, fun h => f25 h, fun h => f26 h, fun _ => rfl, fun h => f28 h, fun h => f29 h, fun h => f30 h⟩
              ·intro L x a wR K hL hd hf hx hΦ hK
               obtain ⟨hI, f0, f1, f2, f3, f4, f5, f6, f7, f8, f9, f10, f11, f12, f13, f14, f15, f16, f17, f18, f19, f20, f21, f22, f23, f24, f25, f26, f27, f28, f29, f30⟩ := hΦ
               have g15 := f15 (hd 15 (by kernel_rfl))
               have ge : a.tmps[122]? = some (x 122) := hx 15 _ 122 rfl rfl (hd 15 (by kernel_rfl))
               rw [g15] at ge
               refine ⟨fun _ => ?_, fun h => absurd h (by rw [Go.RE.wanted_of rfl (Go.RE.yielded_of rfl rfl ge)]; decide)⟩
               have d27 := f27 (hd 27 (by kernel_rfl))
               have e134 : a.tmps[134]? = some (x 134) := hx 27 _ 134 rfl rfl (hd 27 (by kernel_rfl))
               rw [d27] at e134
               have e1 := HRZ.out
               clear hf hx hd
               go_simp
               refine hK _ _ ?_
               exact ⟨hI, fun h => f0 h, fun h => f1 h, fun h => f2 h, fun h => f3 h, fun h => f4 h, fun h => f5 h, fun h => f6 h, fun h => f7 h, fun h => f8 h, fun h => f9 h, fun h => f10 h, fun h => f11 h, fun h => f12 h, fun h => f13 h, fun h => f14 h, fun h => f15 h, fun h => f16 h, fun h => f17 h, fun h => f18 h, fun h => f19 h, fun h => f20 h, fun h => f21 h, fun h => f22 h, fun h => f23 h, fun h => f24 h, fun h => f25 h, fun h => f26 h, fun h => f27 h, fun _ => rfl, fun h => f29 h, fun h => f30 h⟩
              ·intro L x a wR K hL hd hf hx hΦ hK
               obtain ⟨hI, f0, f1, f2, f3, f4, f5, f6, f7, f8, f9, f10, f11, f12, f13, f14, f15, f16, f17, f18, f19, f20, f21, f22, f23, f24, f25, f26, f27, f28, f29, f30⟩ := hΦ
               have g15 := f15 (hd 15 (by kernel_rfl))
               have ge : a.tmps[122]? = some (x 122) := hx 15 _ 122 rfl rfl (hd 15 (by kernel_rfl))
               rw [g15] at ge
               refine ⟨fun _ => ?_, fun h => absurd h (by rw [Go.RE.wanted_of rfl (Go.RE.yielded_of rfl rfl ge)]; decide)⟩
               have d20 := f20 (hd 20 (by kernel_rfl))
               have e127 : a.tmps[127]? = some (x 127) := hx 20 _ 127 rfl rfl (hd 20 (by kernel_rfl))
               rw [d20] at e127
               have d28 := f28 (hd 28 (by kernel_rfl))
               have e135 : a.tmps[135]? = some (x 135) := hx 28 _ 135 rfl rfl (hd 28 (by kernel_rfl))
               rw [d28] at e135
               clear hf hx hd
               go_simp
               refine hK _ _ ?_
               exact ⟨hI, fun h => f0 h, fun h => f1 h, fun h => f2 h, fun h => f3 h, fun h => f4 h, fun h => f5 h, fun h => f6 h, fun h => f7 h, fun h => f8 h, fun h => f9 h, fun h => f10 h, fun h => f11 h, fun h => f12 h, fun h => f13 h, fun h => f14 h, fun h => f15 h, fun h => f16 h, fun h => f17 h, fun h => f18 h, fun h => f19 h, fun h => f20 h, fun h => f21 h, fun h => f22 h, fun h => f23 h, fun h => f24 h, fun h => f25 h, fun h => f26 h, fun h => f27 h, fun h => f28 h, fun _ => rfl, fun h => f30 h⟩
              ·intro L x a wR K hL hd hf hx hΦ hK
               obtain ⟨hI, f0, f1, f2, f3, f4, f5, f6, f7, f8, f9, f10, f11, f12, f13, f14, f15, f16, f17, f18, f19, f20, f21, f22, f23, f24, f25, f26, f27, f28, f29, f30⟩ := hΦ
               refine ⟨fun _ => ?_, fun h => absurd h (by rw [Go.RE.wanted_none rfl]; decide)⟩
               have d15 := f15 (hd 15 (by kernel_rfl))
               have e122 : a.tmps[122]? = some (x 122) := hx 15 _ 122 rfl rfl (hd 15 (by kernel_rfl))
               rw [d15] at e122
               have d29 := f29 (hd 29 (by kernel_rfl))
               have e136 : a.tmps[136]? = some (x 136) := hx 29 _ 136 rfl rfl (hd 29 (by kernel_rfl))
               rw [d29] at e136
               clear hf hx hd
               go_simp
               refine hK _ _ ?_
               exact ⟨hI, fun h => f0 h, fun h => f1 h, fun h => f2 h, fun h => f3 h, fun h => f4 h, fun h => f5 h, fun h => f6 h, fun h => f7 h, fun h => f8 h, fun h => f9 h, fun h => f10 h, fun h => f11 h, fun h => f12 h, fun h => f13 h, fun h => f14 h, fun h => f15 h, fun h => f16 h, fun h => f17 h, fun h => f18 h, fun h => f19 h, fun h => f20 h, fun h => f21 h, fun h => f22 h, fun h => f23 h, fun h => f24 h, fun h => f25 h, fun h => f26 h, fun h => f27 h, fun h => f28 h, fun h => f29 h, fun _ => rfl⟩
              ·rintro x W ⟨hI, f0, f1, f2, f3, f4, f5, f6, f7, f8, f9, f10, f11, f12, f13, f14, f15, f16, f17, f18, f19, f20, f21, f22, f23, f24, f25, f26, f27, f28, f29, f30⟩
               simp only [Exit.then]
               go_step
               go_meet
               exact ⟨f30 rfl, hI⟩
             ·have HAB := Lib.hid (hA1 ea)
              have HAN := Lib.hid (hAN ea)
              clear hA0 hA1 hB0 hB1 hAN hp4 hp5 hrv hqa hqb hrk hgk hr16 hv16 ea eb b0 hkn
              refine Go.RE.wp_region_eachg [107, 108, 109, 110, 111, 112, 113, 114, 115, 116, 117, 118, 119, 120, 121, 122, 123, 124, 125, 126, 127, 128, 129, 130, 131, 132, 133, 134, 135, 136, 137] (fun L x W => (Below wr.heap.size wr W) ∧ (L 0 = true → x 107 = .int .i64 (va : Int)) ∧ (L 1 = true → x 108 = .int .i64 (k : Int)) ∧ (L 2 = true → x 109 = .int .i64 (qa : Int)) ∧ (L 3 = true → x 110 = .int .i64 1) ∧ (L 4 = true → x 111 = .bool true) ∧ (L 5 = true → x 112 = .bool true) ∧ (L 6 = true → x 113 = .pointer (some ⟨B7, 2, none⟩)) ∧ (L 7 = true → x 114 = .slice (some ⟨g, o, none⟩) r1 r2) ∧ (L 8 = true → x 115 = .int .i64 (k : Int)) ∧ (L 9 = true → x 116 = .pointer (some ⟨g, o + k, none⟩)) ∧ (L 10 = true → x 117 = .int .i64 (rk : Int)) ∧ (L 11 = true → x 118 = .int .i64 (va : Int)) ∧ (L 12 = true → x 119 = .int .i64 0) ∧ (L 13 = true → x 120 = .bool false) ∧ (L 14 = true → x 121 = .bool false) ∧ (L 15 = true → x 122 = .bool false) ∧ (L 16 = true → x 123 = .int .i64 (vb : Int)) ∧ (L 17 = true → x 124 = .int .i64 (k : Int)) ∧ (L 18 = true → x 125 = .int .i64 (qb : Int)) ∧ (L 19 = true → x 126 = .int .i64 1) ∧ (L 20 = true → x 127 = .bool true) ∧ (L 21 = true → x 128 = .pointer (some ⟨B7, 2, none⟩)) ∧ (L 22 = true → x 129 = .slice (some ⟨g, o, none⟩) r1 r2) ∧ (L 23 = true → x 130 = .int .i64 (k : Int)) ∧ (L 24 = true → x 131 = .pointer (some ⟨g, o + k, none⟩)) ∧ (L 25 = true → x 132 = .int .i64 (rk : Int)) ∧ (L 26 = true → x 133 = .int .i64 (va : Int)) ∧ (L 27 = true → x 134 = .int .i64 (rv : Int)) ∧ (L 28 = true → x 135 = .bool true) ∧ (L 29 = true → x 136 = .bool false) ∧ (L 30 = true → x 137 = .bool false)) (by kernel_rfl) (by kernel_rfl) (by kernel_rfl) ?_ ((Go.RE.Each.cons ?_ (Go.RE.Each.cons ?_ (Go.RE.Each.cons ?_ (Go.RE.Each.cons ?_ (Go.RE.Each.cons ?_ (Go.RE.Each.cons ?_ (Go.RE.Each.cons ?_ (Go.RE.Each.cons ?_ (Go.RE.Each.cons ?_ (Go.RE.Each.cons ?_ (Go.RE.Each.cons ?_ (Go.RE.Each.cons ?_ (Go.RE.Each.cons ?_ (Go.RE.Each.cons ?_ (Go.RE.Each.cons ?_ (Go.RE.Each.cons ?_ (Go.RE.Each.cons ?_ (Go.RE.Each.cons ?_ (Go.RE.Each.cons ?_ (Go.RE.Each.cons ?_ (Go.RE.Each.cons ?_ (Go.RE.Each.cons ?_ (Go.RE.Each.cons ?_ (Go.RE.Each.cons ?_ (Go.RE.Each.cons ?_ (Go.RE.Each.cons ?_ (Go.RE.Each.cons ?_ (Go.RE.Each.cons ?_ (Go.RE.Each.cons ?_ (Go.RE.Each.cons ?_ (Go.RE.Each.cons ?_ Go.RE.Each.nil)))))))))))))))))))))))))))))))) ?_
              ·exact fun x => ⟨bl_dr (Below.refl _ _), fun h => (by cases h), fun h => (by cases h), fun h => (by cases h), fun h => (by cases h), fun h => (by cases h), fun h => (by cases h), fun h => (by cases h), fun h => (by cases h), fun h => (by cases h), fun h => (by cases h), fun h => (by cases h), fun h => (by cases h), fun h => (by cases h), fun h => (by cases h), fun h => (by cases h), fun h => (by cases h), fun h => (by cases h), fun h => (by cases h), fun h => (by cases h), fun h => (by cases h), fun h => (by cases h), fun h => (by cases h), fun h => (by cases h), fun h => (by cases h), fun h => (by cases h), fun h => (by cases h), fun h => (by cases h), fun h => (by cases h), fun h => (by cases h), fun h => (by cases h), fun h => (by cases h)⟩
              ·intro L x a wR K hL hd hf hx hΦ hK
               obtain ⟨hI, f0, f1, f2, f3, f4, f5, f6, f7, f8, f9, f10, f11, f12, f13, f14, f15, f16, f17, f18, f19, f20, f21, f22, f23, f24, f25, f26, f27, f28, f29, f30⟩ := hΦ
               refine ⟨fun _ => ?_, fun h => absurd h (by rw [Go.RE.wanted_none rfl]; decide)⟩
               have e10 : a.tmps[10]? = some (.int .i64 (va : Int)) := hf 10 (of_decide_eq_true (by kernel_rfl))
               clear hf hx hd
               go_simp
               refine hK _ _ ?_
               exact ⟨hI, fun _ => rfl, fun h => f1 h, fun h => f2 h, fun h => f3 h, fun h => f4 h, fun h => f5 h, fun h => f6 h, fun h => f7 h, fun h => f8 h, fun h => f9 h, fun h => f10 h, fun h => f11 h, fun h => f12 h, fun h => f13 h, fun h => f14 h, fun h => f15 h, fun h => f16 h, fun h => f17 h, fun h => f18 h, fun h => f19 h, fun h => f20 h, fun h => f21 h, fun h => f22 h, fun h => f23 h, fun h => f24 h, fun h => f25 h, fun h => f26 h, fun h => f27 h, fun h => f28 h, fun h => f29 h, fun h => f30 h⟩
              ·intro L x a wR K hL hd hf hx hΦ hK
               obtain ⟨hI, f0, f1, f2, f3, f4, f5, f6, f7, f8, f9, f10, f11, f12, f13, f14, f15, f16, f17, f18, f19, f20, f21, f22, f23, f24, f25, f26, f27, f28, f29, f30⟩ := hΦ
               refine ⟨fun _ => ?_, fun h => absurd h (by rw [Go.RE.wanted_none rfl]; decide)⟩
               have e18 : a.tmps[18]? = some (.int .i64 (k : Int)) := hf 18 (of_decide_eq_true (by kernel_rfl))
               clear hf hx hd
               go_simp
               refine hK _ _ ?_
               exact ⟨hI, fun h => f0 h, fun _ => rfl, fun h => f2 h, fun h => f3 h, fun h => f4 h, fun h => f5 h, fun h => f6 h, fun h => f7 h, fun h => f8 h, fun h => f9 h, fun h => f10 h, fun h => f11 h, fun h => f12 h, fun h => f13 h, fun h => f14 h, fun h => f15 h, fun h => f16 h, fun h => f17 h, fun h => f18 h, fun h => f19 h, fun h => f20 h, fun h => f21 h, fun h => f22 h, fun h => f23 h, fun h => f24 h, fun h => f25 h, fun h => f26 h, fun h => f27 h, fun h => f28 h, fun h => f29 h, fun h => f30 h⟩
              ·intro L x a wR K hL hd hf hx hΦ hK
               obtain ⟨hI, f0, f1, f2, f3, f4, f5, f6, f7, f8, f9, f10, f11, f12, f13, f14, f15, f16, f17, f18, f19, f20, f21, f22, f23, f24, f25, f26, f27, f28, f29, f30⟩ := hΦ
               refine ⟨fun _ => ?_, fun h => absurd h (by rw [Go.RE.wanted_none rfl]; decide)⟩
               have d0 := f0 (hd 0 (by kernel_rfl))
               have e107 : a.tmps[107]? = some (x 107) := hx 0 _ 107 rfl rfl (hd 0 (by kernel_rfl))
               rw [d0] at e107
               have d1 := f1 (hd 1 (by kernel_rfl))
               have e108 : a.tmps[108]? = some (x 108) := hx 1 _ 108 rfl rfl (hd 1 (by kernel_rfl))
               rw [d1] at e108
               have sh1 := HSH.out.1
               have hmin := HMN.out
               have b0 := HK0.out
               clear hf hx hd
               go_simp
               refine hK _ _ ?_
               exact ⟨hI, fun h => f0 h, fun h => f1 h, fun _ => rfl, fun h => f3 h, fun h => f4 h, fun h => f5 h, fun h => f6 h, fun h => f7 h, fun h => f8 h, fun h => f9 h, fun h => f10 h, fun h => f11 h, fun h => f12 h, fun h => f13 h, fun h => f14 h, fun h => f15 h, fun h => f16 h, fun h => f17 h, fun h => f18 h, fun h => f19 h, fun h => f20 h, fun h => f21 h, fun h => f22 h, fun h => f23 h, fun h => f24 h, fun h => f25 h, fun h => f26 h, fun h => f27 h, fun h => f28 h, fun h => f29 h, fun h => f30 h⟩
              ·intro L x a wR K hL hd hf hx hΦ hK
               obtain ⟨hI, f0, f1, f2, f3, f4, f5, f6, f7, f8, f9, f10, f11, f12, f13, f14, f15, f16, f17, f18, f19, f20, f21, f22, f23, f24, f25, f26, f27, f28, f29, f30⟩ := hΦ
               refine ⟨fun _ => ?_, fun h => absurd h (by rw [Go.RE.wanted_none rfl]; decide)⟩
               have d2 := f2 (hd 2 (by kernel_rfl))
               have e109 : a.tmps[109]? = some (x 109) := hx 2 _ 109 rfl rfl (hd 2 (by kernel_rfl))
               rw [d2] at e109
               have e1 := HAB.out
               clear hf hx hd
               go_simp
               refine hK _ _ ?_
               exact ⟨hI, fun h => f0 h, fun h => f1 h, fun h => f2 h, fun _ => rfl, fun h => f4 h, fun h => f5 h, fun h => f6 h, fun h => f7 h, fun h => f8 h, fun h => f9 h, fun h => f10 h, fun h => f11 h, fun h => f12 h, fun h => f13 h, fun h => f14 h, fun h => f15 h, fun h => f16 h, fun h => f17 h, fun h => f18 h, fun h => f19 h, fun h => f20 h, fun h => f21 h, fun h => f22 h, fun h => f23 h, fun h => f24 h, fun h => f25 h, fun h => f26 h, fun h => f27 h, fun h => f28 h, fun h => f29 h, fun h => f30 h⟩
              ·intro L x a wR K hL hd hf hx hΦ hK
               obtain ⟨hI, f0, f1, f2, f3, f4, f5, f6, f7, f8, f9, f10, f11, f12, f13, f14, f15, f16, f17, f18, f19, f20, f21, f22, f23, f24, f25, f26, f27, f28, f29, f30⟩ := hΦ
               refine ⟨fun _ => ?_, fun h => absurd h (by rw [Go.RE.wanted_none rfl]; decide)⟩
               have d3 := f3 (hd 3 (by kernel_rfl))
               have e110 : a.tmps[110]? = some (x 110) := hx 3 _ 110 rfl rfl (hd 3 (by kernel_rfl))
               rw [d3] at e110
               clear hf hx hd
               go_simp
               refine hK _ _ ?_
               exact ⟨hI, fun h => f0 h, fun h => f1 h, fun h => f2 h, fun h => f3 h, fun _ => rfl, fun h => f5 h, fun h => f6 h, fun h => f7 h, fun h => f8 h, fun h => f9 h, fun h => f10 h, fun h => f11 h, fun h => f12 h, fun h => f13 h, fun h => f14 h, fun h => f15 h, fun h => f16 h, fun h => f17 h, fun h => f18 h, fun h => f19 h, fun h => f20 h, fun h => f21 h, fun h => f22 h, fun h => f23 h, fun h => f24 h, fun h => f25 h, fun h => f26 h, fun h => f27 h, fun h => f28 h, fun h => f29 h, fun h => f30 h⟩
              ·intro L x a wR K hL hd hf hx hΦ hK
               obtain ⟨hI, f0, f1, f2, f3, f4, f5, f6, f7, f8, f9, f10, f11, f12, f13, f14, f15, f16, f17, f18, f19, f20, f21, f22, f23, f24, f25, f26, f27, f28, f29, f30⟩ := hΦ
               refine ⟨fun _ => ?_, fun h => absurd h (by rw [Go.RE.wanted_none rfl]; decide)⟩
               have d4 := f4 (hd 4 (by kernel_rfl))
               have e111 : a.tmps[111]? = some (x 111) := hx 4 _ 111 rfl rfl (hd 4 (by kernel_rfl))
               rw [d4] at e111
               clear hf hx hd
               go_simp
               refine hK _ _ ?_
               exact ⟨hI, fun h => f0 h, fun h => f1 h, fun h => f2 h, fun h => f3 h, fun h => f4 h, fun _ => rfl, fun h => f6 h, fun h => f7 h, fun h => f8 h, fun h => f9 h, fun h => f10 h, fun h => f11 h, fun h => f12 h, fun h => f13 h, fun h => f14 h, fun h => f15 h, fun h => f16 h, fun h => f17 h, fun h => f18 h, fun h => f19 h, fun h => f20 h, fun h => f21 h, fun h => f22 h, fun h => f23 h, fun h => f24 h, fun h => f25 h, fun h => f26 h, fun h => f27 h, fun h => f28 h, fun h => f29 h, fun h => f30 h⟩
              ·intro L x a wR K hL hd hf hx hΦ hK
               obtain ⟨hI, f0, f1, f2, f3, f4, f5, f6, f7, f8, f9, f10, f11, f12, f13, f14, f15, f16, f17, f18, f19, f20, f21, f22, f23, f24, f25, f26, f27, f28, f29, f30⟩ := hΦ
               have g5 := f5 (hd 5 (by kernel_rfl))
               have ge : a.tmps[112]? = some (x 112) := hx 5 _ 112 rfl rfl (hd 5 (by kernel_rfl))
               rw [g5] at ge
               refine ⟨fun _ => ?_, fun h => absurd h (by rw [Go.RE.wanted_of rfl (Go.RE.yielded_of rfl rfl ge)]; decide)⟩
               have e7 : a.tmps[7]? = some (.pointer (some ⟨B7, 0, none⟩)) := hf 7 (of_decide_eq_true (by kernel_rfl))
               clear hf hx hd
               go_simp
               refine hK _ _ ?_
               exact ⟨hI, fun h => f0 h, fun h => f1 h, fun h => f2 h, fun h => f3 h, fun h => f4 h, fun h => f5 h, fun _ => rfl, fun h => f7 h, fun h => f8 h, fun h => f9 h, fun h => f10 h, fun h => f11 h, fun h => f12 h, fun h => f13 h, fun h => f14 h, fun h => f15 h, fun h => f16 h, fun h => f17 h, fun h => f18 h, fun h => f19 h, fun h => f20 h, fun h => f21 h, fun h => f22 h, fun h => f23 h, fun h => f24 h, fun h => f25 h, fun h => f26 h, fun h => f27 h, fun h => f28 h, fun h => f29 h, fun h => f30 h⟩
              ·intro L x a wR K hL hd hf hx hΦ hK
               obtain ⟨hI, f0, f1, f2, f3, f4, f5, f6, f7, f8, f9, f10, f11, f12, f13, f14, f15, f16, f17, f18, f19, f20, f21, f22, f23, f24, f25, f26, f27, f28, f29, f30⟩ := hΦ
               have g5 := f5 (hd 5 (by kernel_rfl))
               have ge : a.tmps[112]? = some (x 112) := hx 5 _ 112 rfl rfl (hd 5 (by kernel_rfl))
               rw [g5] at ge
               refine ⟨fun _ => ?_, fun h => absurd h (by rw [Go.RE.wanted_of rfl (Go.RE.yielded_of rfl rfl ge)]; decide)⟩
               have d6 := f6 (hd 6 (by kernel_rfl))
               have e113 : a.tmps[113]? = some (x 113) := hx 6 _ 113 rfl rfl (hd 6 (by kernel_rfl))
               rw [d6] at e113
               have c := HM2.out _ hI
               clear hf hx hd
               go_simp
               refine hK _ _ ?_
               exact ⟨hI, fun h => f0 h, fun h => f1 h, fun h => f2 h, fun h => f3 h, fun h => f4 h, fun h => f5 h, fun h => f6 h, fun _ => rfl, fun h => f8 h, fun h => f9 h, fun h => f10 h, fun h => f11 h, fun h => f12 h, fun h => f13 h, fun h => f14 h, fun h => f15 h, fun h => f16 h, fun h => f17 h, fun h => f18 h, fun h => f19 h, fun h => f20 h, fun h => f21 h, fun h => f22 h, fun h => f23 h, fun h => f24 h, fun h => f25 h, fun h => f26 h, fun h => f27 h, fun h => f28 h, fun h => f29 h, fun h => f30 h⟩
              ·intro L x a wR K hL hd hf hx hΦ hK
               obtain ⟨hI, f0, f1, f2, f3, f4, f5, f6, f7, f8, f9, f10, f11, f12, f13, f14, f15, f16, f17, f18, f19, f20, f21, f22, f23, f24, f25, f26, f27, f28, f29, f30⟩ := hΦ
               have g5 := f5 (hd 5 (by kernel_rfl))
               have ge : a.tmps[112]? = some (x 112) := hx 5 _ 112 rfl rfl (hd 5 (by kernel_rfl))
               rw [g5] at ge
               refine ⟨fun _ => ?_, fun h => absurd h (by rw [Go.RE.wanted_of rfl (Go.RE.yielded_of rfl rfl ge)]; decide)⟩
               have e18 : a.tmps[18]? = some (.int .i64 (k : Int)) := hf 18 (of_decide_eq_true (by kernel_rfl))
               clear hf hx hd
               go_simp
               refine hK _ _ ?_
               exact ⟨hI, fun h => f0 h, fun h => f1 h, fun h => f2 h, fun h => f3 h, fun h => f4 h, fun h => f5 h, fun h => f6 h, fun h => f7 h, fun _ => rfl, fun h => f9 h, fun h => f10 h, fun h => f11 h, fun h => f12 h, fun h => f13 h, fun h => f14 h, fun h => f15 h, fun h => f16 h, fun h => f17 h, fun h => f18 h, fun h => f19 h, fun h => f20 h, fun h => f21 h, fun h => f22 h, fun h => f23 h, fun h => f24 h, fun h => f25 h, fun h => f26 h, fun h => f27 h, fun h => f28 h, fun h => f29 h, fun h => f30 h⟩
              ·intro L x a wR K hL hd hf hx hΦ hK
               obtain ⟨hI, f0, f1, f2, f3, f4, f5, f6, f7, f8, f9, f10, f11, f12, f13, f14, f15, f16, f17, f18, f19, f20, f21, f22, f23, f24, f25, f26, f27, f28, f29, f30⟩ := hΦ
               have g5 := f5 (hd 5 (by kernel_rfl))
               have ge : a.tmps[112]? = some (x 112) := hx 5 _ 112 rfl rfl (hd 5 (by kernel_rfl))
               rw [g5] at ge
               refine ⟨fun _ => ?_, fun h => absurd h (by rw [Go.RE.wanted_of rfl (Go.RE.yielded_of rfl rfl ge)]; decide)⟩
               have d7 := f7 (hd 7 (by kernel_rfl))
               have e114 : a.tmps[114]? = some (x 114) := hx 7 _ 114 rfl rfl (hd 7 (by kernel_rfl))
               rw [d7] at e114
               have d8 := f8 (hd 8 (by kernel_rfl))
               have e115 : a.tmps[115]? = some (x 115) := hx 8 _ 115 rfl rfl (hd 8 (by kernel_rfl))
               rw [d8] at e115
               have l1 := HK0.out
               have l2 := HK1.out
               clear hf hx hd
               go_simp
               refine hK _ _ ?_
               exact ⟨hI, fun h => f0 h, fun h => f1 h, fun h => f2 h, fun h => f3 h, fun h => f4 h, fun h => f5 h, fun h => f6 h, fun h => f7 h, fun h => f8 h, fun _ => rfl, fun h => f10 h, fun h => f11 h, fun h => f12 h, fun h => f13 h, fun h => f14 h, fun h => f15 h, fun h => f16 h, fun h => f17 h, fun h => f18 h, fun h => f19 h, fun h => f20 h, fun h => f21 h, fun h => f22 h, fun h => f23 h, fun h => f24 h, fun h => f25 h, fun h => f26 h, fun h => f27 h, fun h => f28 h, fun h => f29 h, fun h => f30 h⟩
              ·intro L x a wR K hL hd hf hx hΦ hK
               obtain ⟨hI, f0, f1, f2, f3, f4, f5, f6, f7, f8, f9, f10, f11, f12, f13, f14, f15, f16, f17, f18, f19, f20, f21, f22, f23, f24, f25, f26, f27, f28, f29, f30⟩ := hΦ
               have g5 := f5 (hd 5 (by kernel_rfl))
               have ge : a.tmps[112]? = some (x 112) := hx 5 _ 112 rfl rfl (hd 5 (by kernel_rfl))
               rw [g5] at ge
               refine ⟨fun _ => ?_, fun h => absurd h (by rw [Go.RE.wanted_of rfl (Go.RE.yielded_of rfl rfl ge)]; decide)⟩
               have d9 := f9 (hd 9 (by kernel_rfl))
               have e116 : a.tmps[116]? = some (x 116) := hx 9 _ 116 rfl rfl (hd 9 (by kernel_rfl))
               rw [d9] at e116
               have c := HRK.out _ hI
               clear hf hx hd
               go_simp
               refine hK _ _ ?_
               exact ⟨hI, fun h => f0 h, fun h => f1 h, fun h => f2 h, fun h => f3 h, fun h => f4 h, fun h => f5 h, fun h => f6 h, fun h => f7 h, fun h => f8 h, fun h => f9 h, fun _ => rfl, fun h => f11 h, fun h => f12 h, fun h => f13 h, fun h => f14 h, fun h => f15 h, fun h => f16 h, fun h => f17 h, fun h => f18 h, fun h => f19 h, fun h => f20 h, fun h => f21 h, fun h => f22 h, fun h => f23 h, fun h => f24 h, fun h => f25 h, fun h => f26 h, fun h => f27 h, fun h => f28 h, fun h => f29 h, fun h => f30 h⟩
              ·intro L x a wR K hL hd hf hx hΦ hK
               obtain ⟨hI, f0, f1, f2, f3, f4, f5, f6, f7, f8, f9, f10, f11, f12, f13, f14, f15, f16, f17, f18, f19, f20, f21, f22, f23, f24, f25, f26, f27, f28, f29, f30⟩ := hΦ
               have g5 := f5 (hd 5 (by kernel_rfl))
               have ge : a.tmps[112]? = some (x 112) := hx 5 _ 112 rfl rfl (hd 5 (by kernel_rfl))
               rw [g5] at ge
               refine ⟨fun _ => ?_, fun h => absurd h (by rw [Go.RE.wanted_of rfl (Go.RE.yielded_of rfl rfl ge)]; decide)⟩
               have e10 : a.tmps[10]? = some (.int .i64 (va : Int)) := hf 10 (of_decide_eq_true (by kernel_rfl))
               clear hf hx hd
               go_simp
               refine hK _ _ ?_
               exact ⟨hI, fun h => f0 h, fun h => f1 h, fun h => f2 h, fun h => f3 h, fun h => f4 h, fun h => f5 h, fun h => f6 h, fun h => f7 h, fun h => f8 h, fun h => f9 h, fun h => f10 h, fun _ => rfl, fun h => f12 h, fun h => f13 h, fun h => f14 h, fun h => f15 h, fun h => f16 h, fun h => f17 h, fun h => f18 h, fun h => f19 h, fun h => f20 h, fun h => f21 h, fun h => f22 h, fun h => f23 h, fun h => f24 h, fun h => f25 h, fun h => f26 h, fun h => f27 h, fun h => f28 h, fun h => f29 h, fun h => f30 h⟩
              ·intro L x a wR K hL hd hf hx hΦ hK
               obtain ⟨hI, f0, f1, f2, f3, f4, f5, f6, f7, f8, f9, f10, f11, f12, f13, f14, f15, f16, f17, f18, f19, f20, f21, f22, f23, f24, f25, f26, f27, f28, f29, f30⟩ := hΦ
               have g5 := f5 (hd 5 (by kernel_rfl))
               have ge : a.tmps[112]? = some (x 112) := hx 5 _ 112 rfl rfl (hd 5 (by kernel_rfl))
               rw [g5] at ge
               refine ⟨fun _ => ?_, fun h => absurd h (by rw [Go.RE.wanted_of rfl (Go.RE.yielded_of rfl rfl ge)]; decide)⟩
               have d10 := f10 (hd 10 (by kernel_rfl))
               have e117 : a.tmps[117]? = some (x 117) := hx 10 _ 117 rfl rfl (hd 10 (by kernel_rfl))
               rw [d10] at e117
               have d11 := f11 (hd 11 (by kernel_rfl))
               have e118 : a.tmps[118]? = some (x 118) := hx 11 _ 118 rfl rfl (hd 11 (by kernel_rfl))
               rw [d11] at e118
               have e1 := HAN.out
               clear hf hx hd
               go_simp
               refine hK _ _ ?_
               exact ⟨hI, fun h => f0 h, fun h => f1 h, fun h => f2 h, fun h => f3 h, fun h => f4 h, fun h => f5 h, fun h => f6 h, fun h => f7 h, fun h => f8 h, fun h => f9 h, fun h => f10 h, fun h => f11 h, fun _ => rfl, fun h => f13 h, fun h => f14 h, fun h => f15 h, fun h => f16 h, fun h => f17 h, fun h => f18 h, fun h => f19 h, fun h => f20 h, fun h => f21 h, fun h => f22 h, fun h => f23 h, fun h => f24 h, fun h => f25 h, fun h => f26 h, fun h => f27 h, fun h => f28 h, fun h => f29 h, fun h => f30 h⟩
              ·intro L x a wR K hL hd hf hx hΦ hK
               obtain ⟨hI, f0, f1, f2, f3, f4, f5, f6, f7, f8, f9, f10, f11, f12, f13, f14, f15, f16, f17, f18, f19, f20, f21, f22, f23, f24, f25, f26, f27, f28, f29, f30⟩ := hΦ
               have g5 := f5 (hd 5 (by kernel_rfl))
               have ge : a.tmps[112]? = some (x 112) := hx 5 _ 112 rfl rfl (hd 5 (by kernel_rfl))
               rw [g5] at ge
               refine ⟨fun _ => ?_, fun h => absurd h (by rw [Go.RE.wanted_of rfl (Go.RE.yielded_of rfl rfl ge)]; decide)⟩
               have d12 := f12 (hd 12 (by kernel_rfl))
               have e119 : a.tmps[119]? = some (x 119) := hx 12 _ 119 rfl rfl (hd 12 (by kernel_rfl))
               rw [d12] at e119
               clear hf hx hd
               go_simp
               refine hK _ _ ?_
               exact ⟨hI, fun h => f0 h, fun h => f1 h, fun h => f2 h, fun h => f3 h, fun h => f4 h, fun h => f5 h, fun h => f6 h, fun h => f7 h, fun h => f8 h, fun h => f9 h, fun h => f10 h, fun h => f11 h, fun h => f12 h, fun _ => rfl, fun h => f14 h, fun h => f15 h, fun h => f16 h, fun h => f17 h, fun h => f18 h, fun h => f19 h, fun h => f20 h, fun h => f21 h, fun h => f22 h, fun h => f23 h, fun h => f24 h, fun h => f25 h, fun h => f26 h, fun h => f27 h, fun h => f28 h, fun h => f29 h, fun h => f30 h⟩
              ·intro L x a wR K hL hd hf hx hΦ hK
               obtain ⟨hI, f0, f1, f2, f3, f4, f5, f6, f7, f8, f9, f10, f11, f12, f13, f14, f15, f16, f17, f18, f19, f20, f21, f22, f23, f24, f25, f26, f27, f28, f29, f30⟩ := hΦ
               refine ⟨fun _ => ?_, fun h => absurd h (by rw [Go.RE.wanted_none rfl]; decide)⟩
               have d5 := f5 (hd 5 (by kernel_rfl))
               have e112 : a.tmps[112]? = some (x 112) := hx 5 _ 112 rfl rfl (hd 5 (by kernel_rfl))
               rw [d5] at e112
               have d13 := f13 (hd 13 (by kernel_rfl))
               have e120 : a.tmps[120]? = some (x 120) := hx 13 _ 120 rfl rfl (hd 13 (by kernel_rfl))
               rw [d13] at e120
               clear hf hx hd
               go_simp
               refine hK _ _ ?_
               exact ⟨hI, fun h => f0 h, fun h => f1 h, fun h => f2 h, fun h => f3 h, fun h => f4 h, fun h => f5 h, fun h => f6 h, fun h => f7 h, fun h => f8 h, fun h => f9 h, fun h => f10 h, fun h => f11 h, fun h => f12 h, fun h => f13 h, fun _ => rfl, fun h => f15 h, fun h => f16 h, fun h => f17 h, fun h => f18 h, fun h => f19 h, fun h => f20 h, fun h => f21 h, fun h => f22 h, fun h => f23 h, fun h => f24 h, fun h => f25 h, fun h => f26 h, fun h => f27 h, fun h => f28 h, fun h => f29 h, fun h => f30 h⟩
              ·intro L x a wR K hL hd hf hx hΦ hK
               obtain ⟨hI, f0, f1, f2, f3, f4, f5, f6, f7, f8, f9, f10, f11, f12, f13, f14, f15, f16, f17, f18, f19, f20, f21, f22, f23, f24, f25, f26, f27, f28, f29, f30⟩ := hΦ
               refine ⟨fun _ => ?_, fun h => absurd h (by rw [Go.RE.wanted_none rfl]; decide)⟩
               have d14 := f14 (hd 14 (by kernel_rfl))
               have e121 : a.tmps[121]? = some (x 121) := hx 14 _ 121 rfl rfl (hd 14 (by kernel_rfl))
               rw [d14] at e121
               clear hf hx hd
               go_simp
               refine hK _ _ ?_
               exact ⟨hI, fun h => f0 h, fun h => f1 h, fun h => f2 h, fun h => f3 h, fun h => f4 h, fun h => f5 h, fun h => f6 h, fun h => f7 h, fun h => f8 h, fun h => f9 h, fun h => f10 h, fun h => f11 h, fun h => f12 h, fun h => f13 h, fun h => f14 h, fun _ => rfl, fun h => f16 h, fun h => f17 h, fun h => f18 h, fun h => f19 h, fun h => f20 h, fun h => f21 h, fun h => f22 h, fun h => f23 h, fun h => f24 h, fun h => f25 h, fun h => f26 h, fun h => f27 h, fun h => f28 h, fun h => f29 h, fun h => f30 h⟩
              ·intro L x a wR K hL hd hf hx hΦ hK
               obtain ⟨hI, f0, f1, f2, f3, f4, f5, f6, f7, f8, f9, f10, f11, f12, f13, f14, f15, f16, f17, f18, f19, f20, f21, f22, f23, f24, f25, f26, f27, f28, f29, f30⟩ := hΦ
               have g15 := f15 (hd 15 (by kernel_rfl))
               have ge : a.tmps[122]? = some (x 122) := hx 15 _ 122 rfl rfl (hd 15 (by kernel_rfl))
               rw [g15] at ge
               refine ⟨fun _ => ?_, fun h => absurd h (by rw [Go.RE.wanted_of rfl (Go.RE.yielded_of rfl rfl ge)]; decide)⟩
               have e12 : a.tmps[12]? = some (.int .i64 (vb : Int)) := hf 12 (of_decide_eq_true (by kernel_rfl))
               clear hf hx hd
               go_simp
               refine hK _ _ ?_
               exact ⟨hI, fun h => f0 h, fun h => f1 h, fun h => f2 h, fun h => f3 h, fun h => f4 h, fun h => f5 h, fun h => f6 h, fun h => f7 h, fun h => f8 h, fun h => f9 h, fun h => f10 h, fun h => f11 h, fun h => f12 h, fun h => f13 h, fun h => f14 h, fun h => f15 h, fun _ => rfl, fun h => f17 h, fun h => f18 h, fun h => f19 h, fun h => f20 h, fun h => f21 h, fun h => f22 h, fun h => f23 h, fun h => f24 h, fun h => f25 h, fun h => f26 h, fun h => f27 h, fun h => f28 h, fun h => f29 h, fun h => f30 h⟩
              ·intro L x a wR K hL hd hf hx hΦ hK
               obtain ⟨hI, f0, f1, f2, f3, f4, f5, f6, f7, f8, f9, f10, f11, f12, f13, f14, f15, f16, f17, f18, f19, f20, f21, f22, f23, f24, f25, f26, f27, f28, f29, f30⟩ := hΦ
               have g15 := f15 (hd 15 (by kernel_rfl))
               have ge : a.tmps[122]? = some (x 122) := hx 15 _ 122 rfl rfl (hd 15 (by kernel_rfl))
               rw [g15] at ge
               refine ⟨fun _ => ?_, fun h => absurd h (by rw [Go.RE.wanted_of rfl (Go.RE.yielded_of rfl rfl ge)]; decide)⟩
               have e18 : a.tmps[18]? = some (.int .i64 (k : Int)) := hf 18 (of_decide_eq_true (by kernel_rfl))
               clear hf hx hd
               go_simp
               refine hK _ _ ?_
               exact ⟨hI, fun h => f0 h, fun h => f1 h, fun h => f2 h, fun h => f3 h, fun h => f4 h, fun h => f5 h, fun h => f6 h, fun h => f7 h, fun h => f8 h, fun h => f9 h, fun h => f10 h, fun h => f11 h, fun h => f12 h, fun h => f13 h, fun h => f14 h, fun h => f15 h, fun h => f16 h, fun _ => rfl, fun h => f18 h, fun h => f19 h, fun h => f20 h, fun h => f21 h, fun h => f22 h, fun h => f23 h, fun h => f24 h, fun h => f25 h, fun h => f26 h, fun h => f27 h, fun h => f28 h, fun h => f29 h, fun h => f30 h⟩
              ·intro L x a wR K hL hd hf hx hΦ hK
               obtain ⟨hI, f0, f1, f2, f3, f4, f5, f6, f7, f8, f9, f10, f11, f12, f13, f14, f15, f16, f17, f18, f19, f20, f21, f22, f23, f24, f25, f26, f27, f28, f29, f30⟩ := hΦ
               have g15 := f15 (hd 15 (by kernel_rfl))
               have ge : a.tmps[122]? = some (x 122) := hx 15 _ 122 rfl rfl (hd 15 (by kernel_rfl))
               rw [g15] at ge
               refine ⟨fun _ => ?_, fun h => absurd h (by rw [Go.RE.wanted_of rfl (Go.RE.yielded_of rfl rfl ge)]; decide)⟩
               have d16 := f16 (hd 16 (by kernel_rfl))
               have e123 : a.tmps[123]? = some (x 123) := hx 16 _ 123 rfl rfl (hd 16 (by kernel_rfl))
               rw [d16] at e123
               have d17 := f17 (hd 17 (by kernel_rfl))
               have e124 : a.tmps[124]? = some (x 124) := hx 17 _ 124 rfl rfl (hd 17 (by kernel_rfl))
               rw [d17] at e124
               have sh1 := HSH.out.2
               have hmin := HMN.out
               have b0 := HK0.out
               clear hf hx hd
               go_simp
               refine hK _ _ ?_
               exact ⟨hI, fun h => f0 h, fun h => f1 h, fun h => f2 h, fun h => f3 h, fun h => f4 h, fun h => f5 h, fun h => f6 h, fun h => f7 h, fun h => f8 h, fun h => f9 h, fun h => f10 h, fun h => f11 h, fun h => f12 h, fun h => f13 h, fun h => f14 h, fun h => f15 h, fun h => f16 h, fun h => f17 h, fun _ => rfl, fun h => f19 h, fun h => f20 h, fun h => f21 h, fun h => f22 h, fun h => f23 h, fun h => f24 h, fun h => f25 h, fun h => f26 h, fun h => f27 h, fun h => f28 h, fun h => f29 h, fun h => f30 h⟩
              ·intro L x a wR K hL hd hf hx hΦ hK
               obtain ⟨hI, f0, f1, f2, f3, f4, f5, f6, f7, f8, f9, f10, f11, f12, f13, f14, f15, f16, f17, f18, f19, f20, f21, f22, f23, f24, f25, f26, f27, f28, f29, f30⟩ := hΦ
               have g15 := f15 (hd 15 (by kernel_rfl))
               have ge : a.tmps[122]? = some (x 122) := hx 15 _ 122 rfl rfl (hd 15 (by kernel_rfl))
               rw [g15] at ge
               refine ⟨fun _ => ?_, fun h => absurd h (by rw [Go.RE.wanted_of rfl (Go.RE.yielded_of rfl rfl ge)]; decide)⟩
               have d18 := f18 (hd 18 (by kernel_rfl))
               have e125 : a.tmps[125]? = some (x 125) := hx 18 _ 125 rfl rfl (hd 18 (by kernel_rfl))
               rw [d18] at e125
               have e1 := HBB.out
               clear hf hx hd
               go_simp
               refine hK _ _ ?_
               exact ⟨hI, fun h => f0 h, fun h => f1 h, fun h => f2 h, fun h => f3 h, fun h => f4 h, fun h => f5 h, fun h => f6 h, fun h => f7 h, fun h => f8 h, fun h => f9 h, fun h => f10 h, fun h => f11 h, fun h => f12 h, fun h => f13 h, fun h => f14 h, fun h => f15 h, fun h => f16 h, fun h => f17 h, fun h => f18 h, fun _ => rfl, fun h => f20 h, fun h => f21 h, fun h => f22 h, fun h => f23 h, fun h => f24 h, fun h => f25 h, fun h => f26 h, fun h => f27 h, fun h => f28 h, fun h => f29 h, fun h => f30 h⟩
              ·intro L x a wR K hL hd hf hx hΦ hK
               obtain ⟨hI, f0, f1, f2, f3, f4, f5, f6, f7, f8, f9, f10, f11, f12, f13, f14, f15, f16, f17, f18, f19, f20, f21, f22, f23, f24, f25, f26, f27, f28, f29, f30⟩ := hΦ
               have g15 := f15 (hd 15 (by kernel_rfl))
               have ge : a.tmps[122]? = some (x 122) := hx 15 _ 122 rfl rfl (hd 15 (by kernel_rfl))
               rw [g15] at ge
               refine ⟨fun _ => ?_, fun h => absurd h (by rw [Go.RE.wanted_of rfl (Go.RE.yielded_of rfl rfl ge)]; decide)⟩
               have d19 := f19 (hd 19 (by kernel_rfl))
               have e126 : a.tmps[126]? = some (x 126) := hx 19 _ 126 rfl rfl (hd 19 (by kernel_rfl))
               rw [d19] at e126
               clear hf hx hd
               go_simp
               refine hK _ _ ?_
               exact ⟨hI, fun h => f0 h, fun h => f1 h, fun h => f2 h, fun h => f3 h, fun h => f4 h, fun h => f5 h, fun h => f6 h, fun h => f7 h, fun h => f8 h, fun h => f9 h, fun h => f10 h, fun h => f11 h, fun h => f12 h, fun h => f13 h, fun h => f14 h, fun h => f15 h, fun h => f16 h, fun h => f17 h, fun h => f18 h, fun h => f19 h, fun _ => rfl, fun h => f21 h, fun h => f22 h, fun h => f23 h, fun h => f24 h, fun h => f25 h, fun h => f26 h, fun h => f27 h, fun h => f28 h, fun h => f29 h, fun h => f30 h⟩
              ·intro L x a wR K hL hd hf hx hΦ hK
               obtain ⟨hI, f0, f1, f2, f3, f4, f5, f6, f7, f8, f9, f10, f11, f12, f13, f14, f15, f16, f17, f18, f19, f20, f21, f22, f23, f24, f25, f26, f27, f28, f29, f30⟩ := hΦ
               have g15 := f15 (hd 15 (by kernel_rfl))
               have ge : a.tmps[122]? = some (x 122) := hx 15 _ 122 rfl rfl (hd 15 (by kernel_rfl))
               rw [g15] at ge
               refine ⟨fun _ => ?_, fun h => absurd h (by rw [Go.RE.wanted_of rfl (Go.RE.yielded_of rfl rfl ge)]; decide)⟩
               have e7 : a.tmps[7]? = some (.pointer (some ⟨B7, 0, none⟩)) := hf 7 (of_decide_eq_true (by kernel_rfl))
               clear hf hx hd
               go_simp
               refine hK _ _ ?_
               exact ⟨hI, fun h => f0 h, fun h => f1 h, fun h => f2 h, fun h => f3 h, fun h => f4 h, fun h => f5 h, fun h => f6 h, fun h => f7 h, fun h => f8 h, fun h => f9 h, fun h => f10 h, fun h => f11 h, fun h => f12 h, fun h => f13 h, fun h => f14 h, fun h => f15 h, fun h => f16 h, fun h => f17 h, fun h => f18 h, fun h => f19 h, fun h => f20 h, fun _ => rfl, fun h => f22 h, fun h => f23 h, fun h => f24 h, fun h => f25 h, fun h => f26 h, fun h => f27 h, fun h => f28 h, fun h => f29 h, fun h => f30 h⟩
              ·intro L x a wR K hL hd hf hx hΦ hK
               obtain ⟨hI, f0, f1, f2, f3, f4, f5, f6, f7, f8, f9, f10, f11, f12, f13, f14, f15, f16, f17, f18, f19, f20, f21, f22, f23, f24, f25, f26, f27, f28, f29, f30⟩ := hΦ
               have g15 := f15 (hd 15 (by kernel_rfl))
               have ge : a.tmps[122]? = some (x 122) := hx 15 _ 122 rfl rfl (hd 15 (by kernel_rfl))
               rw [g15] at ge
               refine ⟨fun _ => ?_, fun h => absurd h (by rw [Go.RE.wanted_of rfl (Go.RE.yielded_of rfl rfl ge)]; decide)⟩
               have d21 := f21 (hd 21 (by kernel_rfl))
               have e128 : a.tmps[128]? = some (x 128) := hx 21 _ 128 rfl rfl (hd 21 (by kernel_rfl))
               rw [d21] at e128
               have c := HM2.out _ hI
               clear hf hx hd
               go_simp
               refine hK _ _ ?_
               exact ⟨hI, fun h => f0 h, fun h => f1 h, fun h => f2 h, fun h => f3 h, fun h => f4 h, fun h => f5 h, fun h => f6 h, fun h => f7 h, fun h => f8 h, fun h => f9 h, fun h => f10 h, fun h => f11 h, fun h => f12 h, fun h => f13 h, fun h => f14 h, fun h => f15 h, fun h => f16 h, fun h => f17 h, fun h => f18 h, fun h => f19 h, fun h => f20 h, fun h => f21 h, fun _ => rfl, fun h => f23 h, fun h => f24 h, fun h => f25 h, fun h => f26 h, fun h => f27 h, fun h => f28 h, fun h => f29 h, fun h => f30 h⟩
              ·intro L x a wR K hL hd hf hx hΦ hK
               obtain ⟨hI, f0, f1, f2, f3, f4, f5, f6, f7, f8, f9, f10, f11, f12, f13, f14, f15, f16, f17, f18, f19, f20, f21, f22, f23, f24, f25, f26, f27, f28, f29, f30⟩ := hΦ
               have g15 := f15 (hd 15 (by kernel_rfl))
               have ge : a.tmps[122]? = some (x 122) := hx 15 _ 122 rfl rfl (hd 15 (by kernel_rfl))
               rw [g15] at ge
               refine ⟨fun _ => ?_, fun h => absurd h (by rw [Go.RE.wanted_of rfl (Go.RE.yielded_of rfl rfl ge)]; decide)⟩
               have e18 : a.tmps[18]? = some (.int .i64 (k : Int)) := hf 18 (of_decide_eq_true (by kernel_rfl))
               clear hf hx hd
               go_simp
               refine hK _ _ ?_
               exact ⟨hI, fun h => f0 h, fun h => f1 h, fun h => f2 h, fun h => f3 h, fun h => f4 h, fun h => f5 h, fun h => f6 h, fun h => f7 h, fun h => f8 h, fun h => f9 h, fun h => f10 h, fun h => f11 h, fun h => f12 h, fun h => f13 h, fun h => f14 h, fun h => f15 h, fun h => f16 h, fun h => f17 h, fun h => f18 h, fun h => f19 h, fun h => f20 h, fun h => f21 h, fun h => f22 h, fun _ => rfl, fun h => f24 h, fun h => f25 h, fun h => f26 h, fun h => f27 h, fun h => f28 h, fun h => f29 h, fun h => f30 h⟩
              ·intro L x a wR K hL hd hf hx hΦ hK
               obtain ⟨hI, f0, f1, f2, f3, f4, f5, f6, f7, f8, f9, f10, f11, f12, f13, f14, f15, f16, f17, f18, f19, f20, f21, f22, f23, f24, f25, f26, f27, f28, f29, f30⟩ := hΦ
               have g15 := f15 (hd 15 (by kernel_rfl))
               have ge : a.tmps[122]? = some (x 122) := hx 15 _ 122 rfl rfl (hd 15 (by kernel_rfl))
               rw [g15] at ge
               refine ⟨fun _ => ?_, fun h => absurd h (by rw [Go.RE.wanted_of rfl (Go.RE.yielded_of rfl rfl ge)]; decide)⟩
               have d22 := f22 (hd 22 (by kernel_rfl))
               have e129 : a.tmps[129]? = some (x 129) := hx 22 _ 129 rfl rfl (hd 22 (by kernel_rfl))
               rw [d22] at e129
               have d23 := f23 (hd 23 (by kernel_rfl))
               have e130 : a.tmps[130]? = some (x 130) := hx 23 _ 130 rfl rfl (hd 23 (by kernel_rfl))
               rw [d23] at e130
               have l1 := HK0.out
               have l2 := HK1.out
               clear hf hx hd
               go_simp
               refine hK _ _ ?_
               exact ⟨hI, fun h => f0 h, fun h => f1 h, fun h => f2 h, fun h => f3 h, fun h => f4 h, fun h => f5 h, fun h => f6 h, fun h => f7 h, fun h => f8 h, fun h => f9 h, fun h => f10 h, fun h => f11 h, fun h => f12 h, fun h => f13 h, fun h => f14 h, fun h => f15 h, fun h => f16 h, fun h => f17 h, fun h => f18 h, fun h => f19 h, fun h => f20 h, fun h => f21 h, fun h => f22 h, fun h => f23 h, fun _ => rfl, fun h => f25 h, fun h => f26 h, fun h => f27 h, fun h => f28 h, fun h => f29 h, fun h => f30 h⟩
              ·intro L x a wR K hL hd hf hx hΦ hK
               obtain ⟨hI, f0, f1, f2, f3, f4, f5, f6, f7, f8, f9, f10, f11, f12, f13, f14, f15, f16, f17, f18, f19, f20, f21, f22, f23, f24, f25, f26, f27, f28, f29, f30⟩ := hΦ
               have g15 := f15 (hd 15 (by kernel_rfl))
               have ge : a.tmps[122]? = some (x 122) := hx 15 _ 122 rfl rfl (hd 15 (by kernel_rfl))
               rw [g15] at ge
               refine ⟨fun _ => ?_, fun h => absurd h (by rw [Go.RE.wanted_of rfl (Go.RE.yielded_of rfl rfl ge)]; decide)⟩
               have d24 := f24 (hd 24 (by kernel_rfl))
               have e131 : a.tmps[131]? = some (x 131) := hx 24 _ 131 rfl rfl (hd 24 (by kernel_rfl))
               rw [d24] at e131
               have c := HRK.out _ hI
               clear hf hx hd
               go_simp
               refine hK _ _ ?_
               exact ⟨hI, fun h => f0 h, fun h => f1 h, fun h => f2 h, fun h => f3 h, fun h => f4 h, fun h => f5 h, fun h => f6 h, fun h => f7 h, fun h => f8 h, fun h => f9 h, fun h => f10 h, fun h => f11 h, fun h => f12 h, fun h => f13 h, fun h => f14 h, fun h => f15 h, fun h => f16 h, fun h => f17 h, fun h => f18 h, fun h => f19 h, fun h => f20 h, fun h => f21 h, fun h => f22 h, fun h => f23 h, fun h => f24 h, fun _ => rfl, fun h => f26 h, fun h => f27 h, fun h => f28 h, fun h => f29 h, fun h => f30 h⟩
              ·intro L x a wR K hL hd hf hx hΦ hK
               obtain ⟨hI, f0, f1, f2, f3, f4, f5, f6, f7, f8, f9, f10, f11, f12, f13, f14, f15, f16, f17, f18, f19, f20, f21, f22, f23, f24, f25, f26, f27, f28, f29, f30⟩ := hΦ
               have g15 := f15 (hd 15 (by kernel_rfl))
               have ge : a.tmps[122]? = some (x 122) := hx 15 _ 122 rfl rfl (hd 15 (by kernel_rfl))
               rw [g15] at ge
               refine ⟨fun _ => ?_, fun h => absurd h (by rw [Go.RE.wanted_of rfl (Go.RE.yielded_of rfl rfl ge)]; decide)⟩
               have e10 : a.tmps[10]? = some (.int .i64 (va : Int)) := hf 10 (of_decide_eq_true (by kernel_rfl))
               clear hf hx hd
               go_simp
               refine hK _ _ ?_
               exact ⟨hI, fun h => f0 h, fun h => f1 h, fun h => f2 h, fun h => f3 h, fun h => f4 h, fun h => f5 h, fun h => f6 h, fun h => f7 h, fun h => f8 h, fun h => f9 h, fun h => f10 h, fun h => f11 h, fun h => f12 h, fun h => f13 h, fun h => f14 h, fun h => f15 h, fun h => f16 h, fun h => f17 h, fun h => f18 h, fun h => f19 h, fun h => f20 h, fun h => f21 h, fun h => f22 h, fun h => f23 h, fun h => f24 h, fun h => f25 h, fun _ => rfl, fun h => f27 h, fun h => f28 h, fun h => f29 h, fun h => f30 h⟩
              ·intro L x a wR K hL hd hf hx hΦ hK
               obtain ⟨hI, f0, f1, f2, f3, f4, f5, f6, f7, f8, f9, f10, f11, f12, f13, f14, f15, f16, f17, f18, f19, f20, f21, f22, f23, f24, f25, f26, f27, f28, f29, f30⟩ := hΦ
               have g15 := f15 (hd 15 (by kernel_rfl))
               have ge : a.tmps[122]? = some (x 122) := hx 15 _ 122 rfl rfl (hd 15 (by kernel_rfl))
               rw [g15] at ge
               refine ⟨fun _ => ?_, fun h => absurd h (by rw [Go.RE.wanted_of rfl (Go.RE.yielded_of rfl rfl ge)]; decide)⟩
               have d25 := f25 (hd 25 (by kernel_rfl))
               have e132 : a.tmps[132]? = some (x 132) := hx 25 _ 132 rfl rfl (hd 25 (by kernel_rfl))
               rw [d25] at e132
               have d26 := f26 (hd 26 (by kernel_rfl))
               have e133 : a.tmps[133]? = some (x 133) := hx 26 _ 133 rfl rfl (hd 26 (by kernel_rfl))
               rw [d26] at e133
               have e1 := HRV.out
               clear hf hx hd
               go_simp
               refine hK _ _ ?_
               exact ⟨hI, fun h => f0 h, fun h => f1 h, fun h => f2 h, fun h => f3 h, fun h => f4 h, fun h => f5 h, fun h => f6 h, fun h => f7 h, fun h => f8 h, fun h => f9 h, fun h => f10 h, fun h => f11 h, fun h => f12 h, fun h => f13 h, fun h => f14 h, fun h => f15 h, fun h => f16 h, fun h => f17 h, fun h => f18 h, fun h => f19 h, fun h => f20 h, fun h => f21 h, fun h => f22 h, fun h => f23 h, fun h => f24 h, fun h => f25 h, fun h => f26 h, fun _ => rfl, fun h => f28 h, fun h => f29 h, fun h => f30 h⟩
              ·intro L x a wR K hL hd hf hx hΦ hK
               obtain ⟨hI, f0, f1, f2, f3, f4, f5, f6, f7, f8, f9, f10, f11, f12, f13, f14, f15, f16, f17, f18, f19, f20, f21, f22, f23, f24, f25, f26, f27, f28, f29, f30⟩ := hΦ
               have g15 := f15 (hd 15 (by kernel_rfl))
               have ge : a.tmps[122]? = some (x 122) := hx 15 _ 122 rfl rfl (hd 15 (by kernel_rfl))
               rw [g15] at ge
               refine ⟨fun _ => ?_, fun h => absurd h (by rw [Go.RE.wanted_of rfl (Go.RE.yielded_of rfl rfl ge)]; decide)⟩
               have d27 := f27 (hd 27 (by kernel_rfl))
               have e134 : a.tmps[134]? = some (x 134) := hx 27 _ 134 rfl rfl (hd 27 (by kernel_rfl))
               rw [d27] at e134
               have e1 := HRZ.out
               clear hf hx hd
               go_simp
               refine hK _ _ ?_
               exact ⟨hI, fun h => f0 h, fun h => f1 h, fun h => f2 h, fun h => f3 h, fun h => f4 h, fun h => f5 h, fun h => f6 h, fun h => f7 h, fun h => f8 h, fun h => f9 h, fun h => f10 h, fun h => f11 h, fun h => f12 h, fun h => f13 h, fun h => f14 h, fun h => f15 h, fun h => f16 h, fun h => f17 h, fun h => f18 h, fun h => f19 h, fun h => f20 h, fun h => f21 h, fun h => f22 h, fun h => f23 h, fun h => f24 h, fun h => f25 h, fun h => f26 h, fun h => f27 h, fun _ => rfl, fun h => f29 h, fun h => f30 h⟩
              ·intro L x a wR K hL hd hf hx hΦ hK
               obtain ⟨hI, f0, f1, f2, f3, f4, f5, f6, f7, f8, f9, f10, f11, f12, f13, f14, f15, f16, f17, f18, f19, f20, f21, f22, f23, f24, f25, f26, f27, f28, f29, f30⟩ := hΦ
               have g15 := f15 (hd 15 (by kernel_rfl))
               have ge : a.tmps[122]? = some (x 122) := hx 15 _ 122 rfl rfl (hd 15 (by kernel_rfl))
               rw [g15] at ge
               refine ⟨fun _ => ?_, fun h => absurd h (by rw [Go.RE.wanted_of rfl (Go.RE.yielded_of rfl rfl ge)]; decide)⟩
               have d20 := f20 (hd 20 (by kernel_rfl))
               have e127 : a.tmps[127]? = some (x 127) := hx 20 _ 127 rfl rfl (hd 20 (by kernel_rfl))
               rw [d20] at e127
               have d28 := f28 (hd 28 (by kernel_rfl))
               have e135 : a.tmps[135]? = some (x 135) := hx 28 _ 135 rfl rfl (hd 28 (by kernel_rfl))
               rw [d28] at e135
               clear hf hx hd
               go_simp
               refine hK _ _ ?_
               exact ⟨hI, fun h => f0 h, fun h => f1 h, fun h => f2 h, fun h => f3 h, fun h => f4 h, fun h => f5 h, fun h => f6 h, fun h => f7 h, fun h => f8 h, fun h => f9 h, fun h => f10 h, fun h => f11 h, fun h => f12 h, fun h => f13 h, fun h => f14 h, fun h => f15 h, fun h => f16 h, fun h => f17 h, fun h => f18 h, fun h => f19 h, fun h => f20 h, fun h => f21 h, fun h => f22 h, fun h => f23 h, fun h => f24 h, fun h => f25 h, fun h => f26 h, fun h => f27 h, fun h => f28 h, fun _ => rfl, fun h => f30 h⟩
              ·intro L x a wR K hL hd hf hx hΦ hK
               obtain ⟨hI, f0, f1, f2, f3, f4, f5, f6, f7, f8, f9, f10, f11, f12, f13, f14, f15, f16, f17, f18, f19, f20, f21, f22, f23, f24, f25, f26, f27, f28, f29, f30⟩ := hΦ
               refine ⟨fun _ => ?_, fun h => absurd h (by rw [Go.RE.wanted_none rfl]; decide)⟩
               have d15 := f15 (hd 15 (by kernel_rfl))
               have e122 : a.tmps[122]? = some (x 122) := hx 15 _ 122 rfl rfl (hd 15 (by kernel_rfl))
               rw [d15] at e122
               have d29 := f29 (hd 29 (by kernel_rfl))
               have e136 : a.tmps[136]? = some (x 136) := hx 29 _ 136 rfl rfl (hd 29 (by kernel_rfl))
               rw [d29] at e136
               clear hf hx hd
               go_simp
               refine hK _ _ ?_
               exact ⟨hI, fun h => f0 h, fun h => f1 h, fun h => f2 h, fun h => f3 h, fun h => f4 h, fun h => f5 h, fun h => f6 h, fun h => f7 h, fun h => f8 h, fun h => f9 h, fun h => f10 h, fun h => f11 h, fun h => f12 h, fun h => f13 h, fun h => f14 h, fun h => f15 h, fun h => f16 h, fun h => f17 h, fun h => f18 h, fun h => f19 h, fun h => f20 h, fun h => f21 h, fun h => f22 h, fun h => f23 h, fun h => f24 h, fun h => f25 h, fun h => f26 h, fun h => f27 h, fun h => f28 h, fun h => f29 h, fun _ => rfl⟩
              ·rintro x W ⟨hI, f0, f1, f2, f3, f4, f5, f6, f7, f8, f9, f10, f11, f12, f13, f14, f15, f16, f17, f18, f19, f20, f21, f22, f23, f24, f25, f26, f27, f28, f29, f30⟩
               simp only [Exit.then]
               go_step
               go_meet
               exact ⟨f30 rfl, hI⟩
           case rest =>
            obtain ⟨rfl, hB2⟩ := hcut
            have HB2 := Lib.hid hB2
            clear hB2 hA0 hA1 hB0 hB1 hAN hp4 hp5 hrv hqa hqb hrk hgk hr16 hv16
            go_wp2_with (fail)
            go_roundw
            case rel => exact ⟨k + 1, by omega, by go_num, below_tr HB.out HB2.out⟩
            case measure => simp [intOf]; omega
          ·obtain rfl : r1 = k := by omega
           go_wp2_with (fail)
           go_ret
           exact ⟨rfl, below_tr HBL.out HB.out⟩
end Go.Proofs.YtflmllablfjfeaaDoor
