/- Frame: the walk of FrameForces (4). frfo.py prints this text. -/
import Derived.Test.YtflmllablfjfeaaDoorFoa
namespace Go.Proofs.YtflmllablfjfeaaDoor
open Go.RowKit Go.HK Go.FR
set_option linter.unusedVariables false
set_option linter.unusedSimpArgs false
set_option linter.unusedSectionVars false
set_option maxRecDepth 100000 in
set_option maxHeartbeats 16000000 in
theorem forces_walk (w : World) (s : Nat) (F : Nat → Nat) (x0 : Option Addr) (xn xc : Nat) (lx : List Nat) (y0 : Option Addr) (yn yc : Nat) (ly : List Nat) (hrw : IsRows w) (hs : s < 256) (hF : ∀ i, F i < 256) (hx : lx.length = xn) (hx2 : xn ≤ 9223372036854775807) (hbx : IsBy w x0 lx) (hy : ly.length = yn) (hy2 : yn ≤ 9223372036854775807) (hby : IsBy w y0 ly) :
    Calls Tryd.prog 4 #[.int .u8 (s : Int), .agg (sevenV F), .slice x0 xn xc, .slice y0 yn yc] w (RetW w true) := by
  obtain ⟨n, hn⟩ : ∃ n, n = 1 + s % 4 := ⟨_, rfl⟩
  have h1 : 1 ≤ n := by omega
  have h4 : n ≤ 4 := by omega
  obtain ⟨rl, hrl⟩ : ∃ rl, rl = fRel n F n := ⟨_, rfl⟩
  obtain ⟨u4, hu4⟩ : ∃ u, u = upK rl (F 4) n := ⟨_, rfl⟩
  obtain ⟨u5, hu5⟩ : ∃ u, u = upK rl (F 5) n := ⟨_, rfl⟩
  obtain ⟨u6, hu6⟩ : ∃ u, u = upK rl (F 6) n := ⟨_, rfl⟩
  obtain ⟨ff, hff⟩ : ∃ ff, ff = builtF false lx := ⟨_, rfl⟩
  obtain ⟨gg, hgg⟩ : ∃ gg, gg = builtF false ly := ⟨_, rfl⟩
  have hfo := forced_forc n h1 h4 F
  rw [← hrl] at hfo
  have hlen : rl.length = n := by rw [hrl]; exact fRel_len n F n
  have hu : ∀ m, m = u4 ∨ m = u5 ∨ m = u6 → m < 2 ^ rl.length ∧ UpM rl m := fun m hm => by
    rcases hm with rfl | rfl | rfl
    · rw [hu4]; exact ⟨upK_lt hfo.1.ok _ _, upK_up hfo.1 _ _⟩
    · rw [hu5]; exact ⟨upK_lt hfo.1.ok _ _, upK_up hfo.1 _ _⟩
    · rw [hu6]; exact ⟨upK_lt hfo.1.ok _ _, upK_up hfo.1 _ _⟩
  have hsu : suitsB (decide (3 = 3)) 0 rl (n - 1) = true := by rw [hrl]; exact forced_suits n h1 h4 F
  have hmk : ∀ a b c, (∀ m, m = a ∨ m = b ∨ m = c → m < 2 ^ rl.length ∧ UpM rl m) → (mdl 3 n rl [a, b, c]).ok = true := fun a b c hu => mdl_ok (.inl rfl) hfo.1.ok hlen h1 hsu fun m hm => ⟨(hu m hm).1, fun _ => persK_of hfo.1.ok (Nat.lt_of_lt_of_le (hu m hm).1 (pow_le4 (by omega))) (hu m hm).2 _⟩
  have hmok := hmk u4 u5 u6 hu
  have hlw : ∀ m, m = low u4 ∨ m = low u5 ∨ m = low u6 → m < 2 ^ rl.length ∧ UpM rl m := fun m hm => by
    rcases hm with rfl | rfl | rfl
    · exact ⟨low_lt (hu u4 (.inl rfl)).1, low_up (hu u4 (.inl rfl)).2⟩
    · exact ⟨low_lt (hu u5 (.inr (.inl rfl))).1, low_up (hu u5 (.inr (.inl rfl))).2⟩
    · exact ⟨low_lt (hu u6 (.inr (.inr rfl))).1, low_up (hu u6 (.inr (.inr rfl))).2⟩
  have hmo2 := hmk (low u4) (low u5) (low u6) hlw
  have hlk : LookOk rl.length (look3 u4 u5 u6) := look3_all (R := fun m => m < 2 ^ rl.length) (hu _ (.inl rfl)).1 (hu _ (.inr (.inl rfl))).1 (hu _ (.inr (.inr rfl))).1
  have hlk2 : LookOk rl.length (look3 (low u4) (low u5) (low u6)) := look3_all (R := fun m => m < 2 ^ rl.length) (hlw _ (.inl rfl)).1 (hlw _ (.inr (.inl rfl))).1 (hlw _ (.inr (.inr rfl))).1
  have hno : ∀ s m, look3 (low u4) (low u5) (low u6) s = some m → AllNo rl.length m := look3_all (R := fun m => AllNo rl.length m) (low_allno (hu u4 (.inl rfl)).1 (hu u4 (.inl rfl)).2 (by rw [hlen]; exact hfo.2)) (low_allno (hu u5 (.inr (.inl rfl))).1 (hu u5 (.inr (.inl rfl))).2 (by rw [hlen]; exact hfo.2)) (low_allno (hu u6 (.inr (.inr rfl))).1 (hu u6 (.inr (.inr rfl))).2 (by rw [hlen]; exact hfo.2))
  have hpf := built_pln false lx
  rw [← hff] at hpf
  have hpg := built_pln false ly
  rw [← hgg] at hpg
  obtain ⟨va, hva⟩ : ∃ va, va = semF true rl (look3 u4 u5 u6) ff := ⟨_, rfl⟩
  obtain ⟨vb, hvb⟩ : ∃ vb, vb = semF true rl (look3 u4 u5 u6) gg := ⟨_, rfl⟩
  obtain ⟨vi, hvi⟩ : ∃ vi, vi = semF true rl (look3 u4 u5 u6) (Op2 6 ff gg) := ⟨_, rfl⟩
  obtain ⟨vf, hvf⟩ : ∃ vf, vf = semF true rl (look3 u4 u5 u6) (Op2 7 ff gg) := ⟨_, rfl⟩
  obtain ⟨vc, hvc⟩ : ∃ vc, vc = semF true rl (look3 u4 u5 u6) (Op2 4 ff gg) := ⟨_, rfl⟩
  obtain ⟨vo, hvo⟩ : ∃ vo, vo = semF true rl (look3 u4 u5 u6) (Op2 5 ff gg) := ⟨_, rfl⟩
  have p1 := sem_and (force := true) hfo.1.ok hlk ff gg
  have p2 := sem_or (force := true) hfo.1.ok hlk ff gg
  have p3 := fun k (hk : k < rl.length) => imp_bit (force := true) hfo.1.ok hlk ff gg hk
  have p4 := fun k (hk : k < rl.length) => iff_bit (force := true) hfo.1.ok hlk ff gg hk
  have hv16 : va < 16 ∧ vb < 16 ∧ vi < 16 ∧ vf < 16 := ⟨by rw [hva]; exact semF_16 hfo.1.ok hlk _, by rw [hvb]; exact semF_16 hfo.1.ok hlk _, by rw [hvi]; exact semF_16 hfo.1.ok hlk _, by rw [hvf]; exact semF_16 hfo.1.ok hlk _⟩
  rw [← hvc, ← hva, ← hvb] at p1
  rw [← hvo, ← hva, ← hvb] at p2
  simp only [← hvi, ← hva, ← hvb, reachB, if_true] at p3
  simp only [← hvf, ← hva, ← hvb, reachB, if_true] at p4
  have p5 := third hfo.1 hlk2 hno (by omega) ff (ops_pln ff hpf.1)
  have k3 := pln_one (modal := false) (op := 3) (.inl rfl) hpf.1
  have HA1 : Hid (AtIs (mdl 3 n rl [u4, u5, u6]) ff va) := Lib.hid (pln_at (modal := false) (fun h => by cases h) hpf.1 (by omega) (by omega) hva.symm)
  have HA2 : Hid (AtIs (mdl 3 n rl [u4, u5, u6]) gg vb) := Lib.hid (pln_at (modal := false) (fun h => by cases h) hpg.1 (by omega) (by omega) hvb.symm)
  have HA3 : Hid (AtIs (mdl 3 n rl [u4, u5, u6]) (.mk 6 ⟨#[]⟩ [] [ff, gg]) vi) := Lib.hid (pln_at (modal := false) (f := Op2 6 ff gg) (fun h => by cases h) (pln_two (modal := false) (op := 6) (by omega) hpf.1 hpg.1) (by rw [depth_two]; omega) (by rw [nodes_two]; omega) hvi.symm)
  have HA4 : Hid (AtIs (mdl 3 n rl [u4, u5, u6]) (.mk 7 ⟨#[]⟩ [] [ff, gg]) vf) := Lib.hid (pln_at (modal := false) (f := Op2 7 ff gg) (fun h => by cases h) (pln_two (modal := false) (op := 7) (by omega) hpf.1 hpg.1) (by rw [depth_two]; omega) (by rw [nodes_two]; omega) hvf.symm)
  have HA5 : Hid (AtIs (mdl 3 n rl [u4, u5, u6]) (.mk 4 ⟨#[]⟩ [] [ff, gg]) vc) := Lib.hid (pln_at (modal := false) (f := Op2 4 ff gg) (fun h => by cases h) (pln_two (modal := false) (op := 4) (by omega) hpf.1 hpg.1) (by rw [depth_two]; omega) (by rw [nodes_two]; omega) hvc.symm)
  have HA6 : Hid (AtIs (mdl 3 n rl [u4, u5, u6]) (.mk 5 ⟨#[]⟩ [] [ff, gg]) vo) := Lib.hid (pln_at (modal := false) (f := Op2 5 ff gg) (fun h => by cases h) (pln_two (modal := false) (op := 5) (by omega) hpf.1 hpg.1) (by rw [depth_two]; omega) (by rw [nodes_two]; omega) hvo.symm)
  have HA7 : Hid (HoIs (mdl 3 n rl [low u4, low u5, low u6]) (.mk 5 ⟨#[]⟩ [] [ff, .mk 3 ⟨#[]⟩ [] [ff]]) true) := Lib.hid (pln_ho (modal := false) (f := Op2 5 ff (Op1 3 ff)) (fun h => by cases h) (pln_two (modal := false) (op := 5) (by omega) hpf.1 k3) (by rw [depth_two, depth_one]; omega) (by rw [nodes_two, nodes_one]; omega) p5)
  have hu16 : u4 < 16 ∧ u5 < 16 ∧ u6 < 16 := by
    have hp := pow_le4 (n := rl.length) (by omega)
    have a := (hu u4 (.inl rfl)).1
    have b := (hu u5 (.inr (.inl rfl))).1
    have c := (hu u6 (.inr (.inr rfl))).1
    omega
  have HU16 := Lib.hid hu16
  have HMO := Lib.hid hmok
  have HMO2 := Lib.hid hmo2
  have HLEN := Lib.hid hlen
  have HP1 := Lib.hid p1
  have HP2 := Lib.hid p2
  have HP3 := Lib.hid p3
  have HP4 := Lib.hid p4
  have HV16 := Lib.hid hv16
  have HFO := Lib.hid hfo
  have HN14 := Lib.hid (And.intro h1 h4)
  have HX : Hid (∀ W, Below w.heap.size w W → Calls Tryd.prog 14 #[.int .u8 3, .slice x0 xn xc] W (RetFn W ff)) := Lib.hid fun W h => by
    rw [hff]; exact built_fresh W 3 x0 xn xc lx (by omega) hx hx2 (hbx.below h)
  have HY : Hid (∀ W, Below w.heap.size w W → Calls Tryd.prog 14 #[.int .u8 3, .slice y0 yn yc] W (RetFn W gg)) := Lib.hid fun W h => by
    rw [hgg]; exact built_fresh W 3 y0 yn yc ly (by omega) hy hy2 (hby.below h)
  have HFD : Hid (∀ q, Calls Tryd.prog 13 #[.int .u8 (s : Int), .agg (sevenV F)] q (RetMo q 3 n rl [u4, u5, u6])) := Lib.hid fun q => by
    have := forced_call q s F hs hF
    rw [← hn, ← hrl, ← hu4, ← hu5, ← hu6] at this
    exact this
  have hw1 : ∀ o, Below w.heap.size w (w.alloc o) := fun o => below_alloc w o
  have HAW : Hid (∀ o, Calls Tryd.prog 12 #[] (w.alloc o) (RetW (w.alloc o) true)) := Lib.hid fun o => awake_call (w.alloc o) (hrw.below (hw1 o))
  unfold RetW at HAW
  unfold RetFn at HX HY
  have HRW0 := Lib.hid hrw
  clear hn hrl hu4 hu5 hu6 hff hgg hfo hlen hmok hmo2 hmk hlw hu hsu hlk hlk2 hno hpf hpg hva hvb hvi hvf hvc hvo p1 p2 p3 p4 p5 hv16 hu16 k3 hs hF hx hx2 hbx hy hy2 hby hw1 hrw h1 h4
  show Calls Tryd.prog 4 #[.int .u8 (s : Int), .agg #[.int .u8 (F 0 : Nat), .int .u8 (F 1 : Nat), .int .u8 (F 2 : Nat), .int .u8 (F 3 : Nat), .int .u8 (F 4 : Nat), .int .u8 (F 5 : Nat), .int .u8 (F 6 : Nat)], .slice x0 xn xc, .slice y0 yn yc] w _
  go_enter Tryd.func4, Tryd.ntmps4
  go_upto_region 3 with (go_at_call 12; ((with_reducible refine (HAW.out _).mono ?_); rintro e q0 ⟨rfl, hB⟩))
  have hsv := (hB.block w.heap.size (by simp)).trans (HK.blk_new w _)
  have HSV := Lib.hid hsv
  have HBL := Lib.hid (below_tr (below_alloc w _) hB)
  have HRW := Lib.hid (HRW0.out.below HBL.out)
  clear hsv hB
  go_cut [9] from 32 to 34 (fun v9 wx => ∃ B g c fg fc, v9 = .pointer (some ⟨B, 0, none⟩) ∧ wx.heap[B]? = some (.cells #[.int .u8 3, .int .i64 (n : Int), .slice (some ⟨g, 0, none⟩) n c, .int .i64 0, .slice (some ⟨fg, 0, none⟩) 3 fc, .slice none 0 0, .slice none 0 0] 30 (0, 0)) ∧ wx.ownsRow q0.heap.size 3 1 (.slice (some ⟨g, 0, none⟩) n c) n (ints rl) ∧ wx.ownsRow q0.heap.size 46 3 (.slice (some ⟨fg, 0, none⟩) 3 fc) 3 (fcs 0 [u4, u5, u6]) ∧ fg < B ∧ g < B ∧ q0.heap.size ≤ fg ∧ Below q0.heap.size q0 wx)
  case first =>
    have cc := HK.blk_cell HSV.out
    have c0 := cc 0
    have c1 := cc 1
    have c2 := cc 2
    have c3 := cc 3
    have c4 := cc 4
    have c5 := cc 5
    have c6 := cc 6
    clear cc
    have HC : Hid (Calls Tryd.prog 13 #[.int .u8 (s : Int), .agg #[.int .u8 (F 0 : Nat), .int .u8 (F 1 : Nat), .int .u8 (F 2 : Nat), .int .u8 (F 3 : Nat), .int .u8 (F 4 : Nat), .int .u8 (F 5 : Nat), .int .u8 (F 6 : Nat)]] q0 _) := Lib.hid (HFD.out q0)
    unfold RetMo at HC
    go_wp2_with (go_at_call 13; ((with_reducible refine HC.out.mono ?_); rintro e w' ⟨g, c, fg, fc, rfl, hB, ho1, ho2⟩))
    go_meet
    have k1 := own_lt9 ho1 g rfl
    have k2 := own_lt9 ho2 fg rfl
    have k3 : q0.heap.size ≤ fg := by obtain ⟨g', c', e, h, _⟩ := own_form9 ho2 (by simp); cases e; exact h
    exact ⟨_, g, c, fg, fc, rfl, HK.blk_new _ _, (own_below9 ho1 (below_alloc _ _)), (own_below9 ho2 (below_alloc _ _)), k2, k1, k3, below_tr hB (below_alloc _ _)⟩
  case rest =>
    obtain ⟨B9, g9, c9, fg9, fc9, rfl, hb0, ho1, ho2, hl1, hl2, hl3, hB⟩ := hcut
    have hmb : MB wc B9 (mdl 3 n rl [u4, u5, u6]) := mb_of hb0 ho1 HLEN.out (fcB_own ho2) rfl rfl rfl
    have HM9 := Lib.hid hmb
    have hwf : w.heap.size ≤ fg9 := Nat.le_trans HBL.out.size hl3
    replace HRW := Lib.hid (HRW.out.below hB)
    replace HBL := Lib.hid (below_tr HBL.out hB)
    obtain ⟨q1, hq1⟩ : ∃ q : World, q = wc := ⟨_, rfl⟩
    subst hq1
    have HOW := Lib.hid (And.intro hb0 (And.intro ho1 (And.intro ho2 (And.intro hl1 (And.intro hl2 hwf)))))
    have hsi : Since q1 q1 := Below.refl _ _
    have HSI := Lib.hid hsi
    clear hmb hb0 ho1 ho2 hl1 hl2 hl3 hwf hsi hB
    have HK4 : Hid (∀ W, Below q1.heap.size q1 W → W.cell? ⟨B9, 0, none⟩ = some (.int .u8 3)) := Lib.hid fun W h => HK.blk_cell (blk_up9 h HOW.out.1) 0
    have HB1 : Hid (∀ W, Below q1.heap.size q1 W → _) := Lib.hid fun W h => HX.out W (below_tr HBL.out h)
    have HB2 : Hid (∀ W, Below q1.heap.size q1 W → _) := Lib.hid fun W h => HY.out W (below_tr HBL.out h)
    go_upto_region 4 with (fail)
    go_cut [10, 11] from 35 to 42 (fun u v wx => ∃ B B', u = .pointer (some ⟨B, 0, none⟩) ∧ v = .pointer (some ⟨B', 0, none⟩) ∧ FmS q1.heap.size wx B (ff) ∧ FmS q1.heap.size wx B' (gg) ∧ Below q1.heap.size q1 wx)
    case first =>
      refine Go.RE.wp_region_eachg [35, 36, 37, 38, 39, 40, 41, 42, 10, 11] (fun L x W => (Below q1.heap.size q1 W) ∧ (L 0 = true → x 35 = .pointer (some ⟨B9, 0, none⟩)) ∧ (L 1 = true → x 36 = .int .u8 3) ∧ (L 2 = true → x 37 = .slice x0 xn xc) ∧ (L 3 = true → FvN q1.heap.size (L 8) (L 9) (x 10) (x 11) W (x 38) (ff)) ∧ (L 4 = true → x 39 = .pointer (some ⟨B9, 0, none⟩)) ∧ (L 5 = true → x 40 = .int .u8 3) ∧ (L 6 = true → x 41 = .slice y0 yn yc) ∧ (L 7 = true → FvN q1.heap.size (L 8) (L 9) (x 10) (x 11) W (x 42) (gg)) ∧ (L 8 = true → BxN q1.heap.size (L 9) (x 11) W (x 10)) ∧ (L 9 = true → BxN q1.heap.size (L 8) (x 10) W (x 11)) ∧ (L 10 = true → L 8 = true ∧ FmN (L 8) (L 9) (x 10) (x 11) q1.heap.size (L 9) (x 11) W (x 10) (ff)) ∧ (L 11 = true → L 9 = true ∧ FmN (L 8) (L 9) (x 10) (x 11) q1.heap.size (L 8) (x 10) W (x 11) (gg))) (by kernel_rfl) (by kernel_rfl) (by kernel_rfl) ?_ ((Go.RE.Each.cons ?_ (Go.RE.Each.cons ?_ (Go.RE.Each.cons ?_ (Go.RE.Each.cons ?_ (Go.RE.Each.cons ?_ (Go.RE.Each.cons ?_ (Go.RE.Each.cons ?_ (Go.RE.Each.cons ?_ (Go.RE.Each.cons ?_ (Go.RE.Each.cons ?_ (Go.RE.Each.cons ?_ (Go.RE.Each.cons ?_ Go.RE.Each.nil))))))))))))) ?_
      · exact fun x => ⟨bl_dr (Below.refl _ _), fun h => (by cases h), fun h => (by cases h), fun h => (by cases h), fun h => (by cases h), fun h => (by cases h), fun h => (by cases h), fun h => (by cases h), fun h => (by cases h), fun h => (by cases h), fun h => (by cases h), fun h => (by cases h), fun h => (by cases h)⟩
      · intro L x a wR K hL hd hf hx hΦ hK
        obtain ⟨hI, f0, f1, f2, f3, f4, f5, f6, f7, f8, f9, f10, f11⟩ := hΦ
        refine ⟨fun _ => ?_, fun h => absurd h (by rw [Go.RE.wanted_none rfl]; decide)⟩
        have e9 : a.tmps[9]? = some (.pointer (some ⟨B9, 0, none⟩)) := hf 9 (of_decide_eq_true (by kernel_rfl))
        clear hf hx hd
        go_simp
        refine hK _ _ ?_
        exact ⟨hI, fun _ => rfl, fun h => f1 h, fun h => f2 h, fun h => f3 h, fun h => f4 h, fun h => f5 h, fun h => f6 h, fun h => f7 h, fun h => f8 h, fun h => f9 h, fun h => f10 h, fun h => f11 h⟩
      · intro L x a wR K hL hd hf hx hΦ hK
        obtain ⟨hI, f0, f1, f2, f3, f4, f5, f6, f7, f8, f9, f10, f11⟩ := hΦ
        refine ⟨fun _ => ?_, fun h => absurd h (by rw [Go.RE.wanted_none rfl]; decide)⟩
        have d0 := f0 (hd 0 (by kernel_rfl))
        have e35 : a.tmps[35]? = some (x 35) := hx 0 _ 35 rfl rfl (hd 0 (by kernel_rfl))
        rw [d0] at e35
        have c := HK4.out _ hI
        clear hf hx hd
        go_simp
        refine hK _ _ ?_
        exact ⟨hI, fun h => f0 h, fun _ => rfl, fun h => f2 h, fun h => f3 h, fun h => f4 h, fun h => f5 h, fun h => f6 h, fun h => f7 h, fun h => f8 h, fun h => f9 h, fun h => f10 h, fun h => f11 h⟩
      · intro L x a wR K hL hd hf hx hΦ hK
        obtain ⟨hI, f0, f1, f2, f3, f4, f5, f6, f7, f8, f9, f10, f11⟩ := hΦ
        refine ⟨fun _ => ?_, fun h => absurd h (by rw [Go.RE.wanted_none rfl]; decide)⟩
        have e2 : a.tmps[2]? = some (.slice x0 xn xc) := hf 2 (of_decide_eq_true (by kernel_rfl))
        clear hf hx hd
        go_simp
        refine hK _ _ ?_
        exact ⟨hI, fun h => f0 h, fun h => f1 h, fun _ => rfl, fun h => f3 h, fun h => f4 h, fun h => f5 h, fun h => f6 h, fun h => f7 h, fun h => f8 h, fun h => f9 h, fun h => f10 h, fun h => f11 h⟩
      · intro L x a wR K hL hd hf hx hΦ hK
        obtain ⟨hI, f0, f1, f2, f3, f4, f5, f6, f7, f8, f9, f10, f11⟩ := hΦ
        refine ⟨fun _ => ?_, fun h => absurd h (by rw [Go.RE.wanted_none rfl]; decide)⟩
        have d1 := f1 (hd 1 (by kernel_rfl))
        have e36 : a.tmps[36]? = some (x 36) := hx 1 _ 36 rfl rfl (hd 1 (by kernel_rfl))
        rw [d1] at e36
        have d2 := f2 (hd 2 (by kernel_rfl))
        have e37 : a.tmps[37]? = some (x 37) := hx 2 _ 37 rfl rfl (hd 2 (by kernel_rfl))
        rw [d2] at e37
        have hy8 := f8
        have hy9 := f9
        clear hf hx hd
        go_simp
        go_at_call 14
        with_reducible refine (HB1.out _ hI).mono ?_
        rintro e w' ⟨⟨a0, a1, a2⟩, ⟨s0, s1, s2⟩, rfl, hB8, hfm⟩
        refine hK _ _ ?_
        exact ⟨below_tr hI hB8, fun h => f0 h, fun h => f1 h, fun h => f2 h, fun _ => FvN.of_call f8 (fun h => ⟨_, _, f9 h⟩) hB8.size hI.size hfm, fun h => f4 h, fun h => f5 h, fun h => f6 h, fun h => (f7 h).below hB8, fun h => (f8 h).below hB8, fun h => (f9 h).below hB8, fun h => ⟨(f10 h).1, (f10 h).2.below hB8⟩, fun h => ⟨(f11 h).1, (f11 h).2.below hB8⟩⟩
      · intro L x a wR K hL hd hf hx hΦ hK
        obtain ⟨hI, f0, f1, f2, f3, f4, f5, f6, f7, f8, f9, f10, f11⟩ := hΦ
        refine ⟨fun _ => ?_, fun h => absurd h (by rw [Go.RE.wanted_none rfl]; decide)⟩
        have e9 : a.tmps[9]? = some (.pointer (some ⟨B9, 0, none⟩)) := hf 9 (of_decide_eq_true (by kernel_rfl))
        clear hf hx hd
        go_simp
        refine hK _ _ ?_
        exact ⟨hI, fun h => f0 h, fun h => f1 h, fun h => f2 h, fun h => f3 h, fun _ => rfl, fun h => f5 h, fun h => f6 h, fun h => f7 h, fun h => f8 h, fun h => f9 h, fun h => f10 h, fun h => f11 h⟩
      · intro L x a wR K hL hd hf hx hΦ hK
        obtain ⟨hI, f0, f1, f2, f3, f4, f5, f6, f7, f8, f9, f10, f11⟩ := hΦ
        refine ⟨fun _ => ?_, fun h => absurd h (by rw [Go.RE.wanted_none rfl]; decide)⟩
        have d4 := f4 (hd 4 (by kernel_rfl))
        have e39 : a.tmps[39]? = some (x 39) := hx 4 _ 39 rfl rfl (hd 4 (by kernel_rfl))
        rw [d4] at e39
        have c := HK4.out _ hI
        clear hf hx hd
        go_simp
        refine hK _ _ ?_
        exact ⟨hI, fun h => f0 h, fun h => f1 h, fun h => f2 h, fun h => f3 h, fun h => f4 h, fun _ => rfl, fun h => f6 h, fun h => f7 h, fun h => f8 h, fun h => f9 h, fun h => f10 h, fun h => f11 h⟩
      · intro L x a wR K hL hd hf hx hΦ hK
        obtain ⟨hI, f0, f1, f2, f3, f4, f5, f6, f7, f8, f9, f10, f11⟩ := hΦ
        refine ⟨fun _ => ?_, fun h => absurd h (by rw [Go.RE.wanted_none rfl]; decide)⟩
        have e3 : a.tmps[3]? = some (.slice y0 yn yc) := hf 3 (of_decide_eq_true (by kernel_rfl))
        clear hf hx hd
        go_simp
        refine hK _ _ ?_
        exact ⟨hI, fun h => f0 h, fun h => f1 h, fun h => f2 h, fun h => f3 h, fun h => f4 h, fun h => f5 h, fun _ => rfl, fun h => f7 h, fun h => f8 h, fun h => f9 h, fun h => f10 h, fun h => f11 h⟩
      · intro L x a wR K hL hd hf hx hΦ hK
        obtain ⟨hI, f0, f1, f2, f3, f4, f5, f6, f7, f8, f9, f10, f11⟩ := hΦ
        refine ⟨fun _ => ?_, fun h => absurd h (by rw [Go.RE.wanted_none rfl]; decide)⟩
        have d5 := f5 (hd 5 (by kernel_rfl))
        have e40 : a.tmps[40]? = some (x 40) := hx 5 _ 40 rfl rfl (hd 5 (by kernel_rfl))
        rw [d5] at e40
        have d6 := f6 (hd 6 (by kernel_rfl))
        have e41 : a.tmps[41]? = some (x 41) := hx 6 _ 41 rfl rfl (hd 6 (by kernel_rfl))
        rw [d6] at e41
        have hy8 := f8
        have hy9 := f9
        clear hf hx hd
        go_simp
        go_at_call 14
        with_reducible refine (HB2.out _ hI).mono ?_
        rintro e w' ⟨⟨a0, a1, a2⟩, ⟨s0, s1, s2⟩, rfl, hB8, hfm⟩
        refine hK _ _ ?_
        exact ⟨below_tr hI hB8, fun h => f0 h, fun h => f1 h, fun h => f2 h, fun h => (f3 h).below hB8, fun h => f4 h, fun h => f5 h, fun h => f6 h, fun _ => FvN.of_call f8 (fun h => ⟨_, _, f9 h⟩) hB8.size hI.size hfm, fun h => (f8 h).below hB8, fun h => (f9 h).below hB8, fun h => ⟨(f10 h).1, (f10 h).2.below hB8⟩, fun h => ⟨(f11 h).1, (f11 h).2.below hB8⟩⟩
      · intro L x a wR K hL hd hf hx hΦ hK
        obtain ⟨hI, f0, f1, f2, f3, f4, f5, f6, f7, f8, f9, f10, f11⟩ := hΦ
        refine ⟨fun _ => ?_, fun h => absurd h (by rw [Go.RE.wanted_none rfl]; decide)⟩
        clear hf hx hd
        go_simp
        refine hK _ _ ?_
        exact ⟨below_tr hI (below_alloc _ _), fun h => f0 h, fun h => f1 h, fun h => f2 h, fun h => (f3 h).al1 _, fun h => f4 h, fun h => f5 h, fun h => f6 h, fun h => (f7 h).al1 _, fun _ => BxN.fresh hI.size (fun h => ⟨_, _, f9 h⟩), fun h => (f9 h).al _, fun h => by have hh := f10 h; simp [hL] at hh, fun h => ⟨(f11 h).1, (f11 h).2.al1 _⟩⟩
      · intro L x a wR K hL hd hf hx hΦ hK
        obtain ⟨hI, f0, f1, f2, f3, f4, f5, f6, f7, f8, f9, f10, f11⟩ := hΦ
        refine ⟨fun _ => ?_, fun h => absurd h (by rw [Go.RE.wanted_none rfl]; decide)⟩
        clear hf hx hd
        go_simp
        refine hK _ _ ?_
        exact ⟨below_tr hI (below_alloc _ _), fun h => f0 h, fun h => f1 h, fun h => f2 h, fun h => (f3 h).al2 _, fun h => f4 h, fun h => f5 h, fun h => f6 h, fun h => (f7 h).al2 _, fun h => (f8 h).al _, fun _ => BxN.fresh hI.size (fun h => ⟨_, _, f8 h⟩), fun h => ⟨(f10 h).1, (f10 h).2.al2 _⟩, fun h => by have hh := f11 h; simp [hL] at hh⟩
      · intro L x a wR K hL hd hf hx hΦ hK
        obtain ⟨hI, f0, f1, f2, f3, f4, f5, f6, f7, f8, f9, f10, f11⟩ := hΦ
        refine ⟨fun _ => ?_, fun h => absurd h (by rw [Go.RE.wanted_none rfl]; decide)⟩
        have d8 := f8 (hd 8 (by kernel_rfl))
        have e10 : a.tmps[10]? = some (x 10) := hx 8 _ 10 rfl rfl (hd 8 (by kernel_rfl))
        have d3 := f3 (hd 3 (by kernel_rfl))
        have e38 : a.tmps[38]? = some (x 38) := hx 3 _ 38 rfl rfl (hd 3 (by kernel_rfl))
        have r8 := hd 8 (by kernel_rfl)
        clear hf hx hd
        obtain ⟨B, k0, k1, k2, k3, hp, hbk, hm, hne⟩ := d8
        obtain ⟨o, nm, a0, a1, a2, s0, s1, s2, hv, ho, hn, hfm⟩ := d3
        rw [hp] at e10
        rw [hv] at e38
        have c := HK.blk_cell hbk
        have k0 := c 0
        have k1 := c 1
        have k2 := c 2
        have k3 := c 3
        clear c
        have cf := fun i => HK.blk_frozen hbk i
        simp only [ptr0] at e10
        go_simp
        refine hK undef _ ?_
        exact ⟨below4 hI hm _ _ _ _, fun h => f0 h, fun h => f1 h, fun h => f2 h, fun h => (f3 h).set (.inl ⟨r8, hp⟩) _ _ _ _, fun h => f4 h, fun h => f5 h, fun h => f6 h, fun h => (f7 h).set (.inl ⟨r8, hp⟩) _ _ _ _, fun h => (f8 h).own hp hbk _ _ _ _, fun h => (f9 h).set r8 hp _ _ _ _, fun _ => ⟨r8, ⟨B, o, nm, a0, a1, a2, s0, s1, s2, hp, set4 hbk _ _ _ _, hm, hne, ho, hn, nob_set (.inl ⟨r8, hp⟩) hfm _ _ _ _⟩⟩, fun h => ⟨(f11 h).1, (f11 h).2.set r8 hp (.inl ⟨r8, hp⟩) _ _ _ _⟩⟩
      · intro L x a wR K hL hd hf hx hΦ hK
        obtain ⟨hI, f0, f1, f2, f3, f4, f5, f6, f7, f8, f9, f10, f11⟩ := hΦ
        refine ⟨fun _ => ?_, fun h => absurd h (by rw [Go.RE.wanted_none rfl]; decide)⟩
        have d9 := f9 (hd 9 (by kernel_rfl))
        have e11 : a.tmps[11]? = some (x 11) := hx 9 _ 11 rfl rfl (hd 9 (by kernel_rfl))
        have d7 := f7 (hd 7 (by kernel_rfl))
        have e42 : a.tmps[42]? = some (x 42) := hx 7 _ 42 rfl rfl (hd 7 (by kernel_rfl))
        have r9 := hd 9 (by kernel_rfl)
        clear hf hx hd
        obtain ⟨B, k0, k1, k2, k3, hp, hbk, hm, hne⟩ := d9
        obtain ⟨o, nm, a0, a1, a2, s0, s1, s2, hv, ho, hn, hfm⟩ := d7
        rw [hp] at e11
        rw [hv] at e42
        have c := HK.blk_cell hbk
        have k0 := c 0
        have k1 := c 1
        have k2 := c 2
        have k3 := c 3
        clear c
        have cf := fun i => HK.blk_frozen hbk i
        simp only [ptr0] at e11
        go_simp
        refine hK undef _ ?_
        exact ⟨below4 hI hm _ _ _ _, fun h => f0 h, fun h => f1 h, fun h => f2 h, fun h => (f3 h).set (.inr ⟨r9, hp⟩) _ _ _ _, fun h => f4 h, fun h => f5 h, fun h => f6 h, fun h => (f7 h).set (.inr ⟨r9, hp⟩) _ _ _ _, fun h => (f8 h).set r9 hp _ _ _ _, fun h => (f9 h).own hp hbk _ _ _ _, fun h => ⟨(f10 h).1, (f10 h).2.set r9 hp (.inr ⟨r9, hp⟩) _ _ _ _⟩, fun _ => ⟨r9, ⟨B, o, nm, a0, a1, a2, s0, s1, s2, hp, set4 hbk _ _ _ _, hm, hne, ho, hn, nob_set (.inr ⟨r9, hp⟩) hfm _ _ _ _⟩⟩⟩
      · rintro x W ⟨hI, f0, f1, f2, f3, f4, f5, f6, f7, f8, f9, f10, f11⟩
        obtain ⟨E1, e1, b1⟩ := (f10 rfl).2.boxS
        obtain ⟨E2, e2, b2⟩ := (f11 rfl).2.boxS
        simp only [Exit.then]
        go_step
        go_meet
        exact ⟨E1, E2, e1, e2, b1, b2, hI⟩
    case rest =>
      obtain ⟨B10, B11, rfl, rfl, hn1, hn2, hB⟩ := hcut
      replace HM9 := Lib.hid (HM9.out.below hB)
      replace HSI := Lib.hid (HSI.out.below hB)
      have HS1 := Lib.hid hn1
      have HS2 := Lib.hid hn2
      replace hn1 := hn1.box
      replace hn2 := hn2.box
      have HF10 := Lib.hid hn1
      have HF11 := Lib.hid hn2
      replace HRW := Lib.hid (HRW.out.below hB)
      replace HBL := Lib.hid (below_tr HBL.out hB)
      obtain ⟨q2, hq2⟩ : ∃ q : World, q = wc := ⟨_, rfl⟩
      subst hq2
      clear hn1 hn2 hB
      clear HB1 HB2 HK4
      go_upto_region 5 with (fail)
      go_cut [12, 13] from 43 to 48 (fun v12 v13 wx => v12 = .int .i64 (va : Int) ∧ v13 = .int .i64 0 ∧ Below q2.heap.size q2 wx)
      case first =>
        obtain ⟨o, nm, a0, a1, a2, s0, s1, s2, hb, h2, h3, h4⟩ := HF10.out
        have cc := HK.blk_cell hb
        have c0 := cc 0
        have c1 := cc 1
        have c2 := cc 2
        have c3 := cc 3
        clear cc
        obtain ⟨mk', mz', lp', r0', r1', r2', t0', t1', t2', u0', u1', u2', b0', b1', b2', hb', h2', h3', h5', h4'⟩ := HM9.out
        have cc' := HK.blk_cell hb'
        have c0' := cc' 0
        have c1' := cc' 1
        have c2' := cc' 2
        have c3' := cc' 3
        have c4' := cc' 4
        have c5' := cc' 5
        have c6' := cc' 6
        clear cc'
        have hc := at_valv (W := q2) ⟨mk', mz', lp', r0', r1', r2', t0', t1', t2', u0', u1', u2', b0', b1', b2', rfl, h2', h3', h5', h4'⟩ ⟨o, nm, a0, a1, a2, s0, s1, s2, rfl, h2, h3, h4⟩ HRW.out HA1.out.1 HMO.out HA1.out.2.1 HA1.out.2.2.1 HA1.out.2.2.2
        have HC : Hid (Calls Tryd.prog 16 _ _ fun e w' => e = .returned (.tuple #[.int .i64 (va : Int), .int .i64 0]) ∧ _) := Lib.hid hc
        clear hc h2 h3 h4 h2' h3' h4' h5' hb hb'
        go_wp2_with (go_at_call 16; ((with_reducible refine HC.out.mono ?_); rintro e w' ⟨rfl, hB⟩))
        go_meet
        exact ⟨rfl, rfl, hB⟩
      case rest =>
        obtain ⟨rfl, rfl, hB⟩ := hcut
        replace HM9 := Lib.hid (HM9.out.below hB)
        replace HSI := Lib.hid (HSI.out.below hB)
        replace HF10 := Lib.hid (HF10.out.below hB)
        replace HF11 := Lib.hid (HF11.out.below hB)
        replace HS1 := Lib.hid (HS1.out.below hB)
        replace HS2 := Lib.hid (HS2.out.below hB)
        replace HRW := Lib.hid (HRW.out.below hB)
        replace HBL := Lib.hid (below_tr HBL.out hB)
        obtain ⟨q3, hq3⟩ : ∃ q : World, q = wc := ⟨_, rfl⟩
        subst hq3
        clear hB
        go_upto_region 6 with (fail)
        go_cut [14, 15] from 49 to 54 (fun v14 v15 wx => v14 = .int .i64 (vb : Int) ∧ v15 = .int .i64 0 ∧ Below q3.heap.size q3 wx)
        case first =>
          obtain ⟨o, nm, a0, a1, a2, s0, s1, s2, hb, h2, h3, h4⟩ := HF11.out
          have cc := HK.blk_cell hb
          have c0 := cc 0
          have c1 := cc 1
          have c2 := cc 2
          have c3 := cc 3
          clear cc
          obtain ⟨mk', mz', lp', r0', r1', r2', t0', t1', t2', u0', u1', u2', b0', b1', b2', hb', h2', h3', h5', h4'⟩ := HM9.out
          have cc' := HK.blk_cell hb'
          have c0' := cc' 0
          have c1' := cc' 1
          have c2' := cc' 2
          have c3' := cc' 3
          have c4' := cc' 4
          have c5' := cc' 5
          have c6' := cc' 6
          clear cc'
          have hc := at_valv (W := q3) ⟨mk', mz', lp', r0', r1', r2', t0', t1', t2', u0', u1', u2', b0', b1', b2', rfl, h2', h3', h5', h4'⟩ ⟨o, nm, a0, a1, a2, s0, s1, s2, rfl, h2, h3, h4⟩ HRW.out HA2.out.1 HMO.out HA2.out.2.1 HA2.out.2.2.1 HA2.out.2.2.2
          have HC : Hid (Calls Tryd.prog 16 _ _ fun e w' => e = .returned (.tuple #[.int .i64 (vb : Int), .int .i64 0]) ∧ _) := Lib.hid hc
          clear hc h2 h3 h4 h2' h3' h4' h5' hb hb'
          go_wp2_with (go_at_call 16; ((with_reducible refine HC.out.mono ?_); rintro e w' ⟨rfl, hB⟩))
          go_meet
          exact ⟨rfl, rfl, hB⟩
        case rest =>
          obtain ⟨rfl, rfl, hB⟩ := hcut
          replace HM9 := Lib.hid (HM9.out.below hB)
          replace HSI := Lib.hid (HSI.out.below hB)
          replace HF10 := Lib.hid (HF10.out.below hB)
          replace HF11 := Lib.hid (HF11.out.below hB)
          replace HS1 := Lib.hid (HS1.out.below hB)
          replace HS2 := Lib.hid (HS2.out.below hB)
          replace HRW := Lib.hid (HRW.out.below hB)
          replace HBL := Lib.hid (below_tr HBL.out hB)
          obtain ⟨q4, hq4⟩ : ∃ q : World, q = wc := ⟨_, rfl⟩
          subst hq4
          clear hB
          go_upto_region 7 with (fail)
          go_cut [16, 17] from 55 to 63 (fun v16 v17 wx => v16 = .int .i64 (vi : Int) ∧ v17 = .int .i64 0 ∧ Below q4.heap.size q4 wx)
          case first =>
            refine Go.RE.wp_region_eachg [56, 57, 58, 59, 60, 61, 55, 62, 63, 16, 17] (fun L x W => (Below q4.heap.size q4 W) ∧ (L 0 = true → IsMv W (x 56) (mdl 3 n rl [u4, u5, u6])) ∧ (L 1 = true → IsFv W (x 57) (ff)) ∧ (L 2 = true → IsFv W (x 58) (gg)) ∧ (L 3 = true → IsFsV W (x 59) [ff, gg]) ∧ (L 4 = true → IsFv W (x 60) (.mk 6 ⟨#[]⟩ [] [ff, gg])) ∧ (L 5 = true → x 61 = .tuple #[.int .i64 (vi : Int), .int .i64 0]) ∧ (L 6 = true → x 55 = .tuple #[.int .i64 (vi : Int), .int .i64 0]) ∧ (L 7 = true → x 62 = .int .i64 (vi : Int)) ∧ (L 8 = true → x 63 = .int .i64 0) ∧ (L 9 = true → x 16 = .int .i64 (vi : Int)) ∧ (L 10 = true → x 17 = .int .i64 0)) (by kernel_rfl) (by kernel_rfl) (by kernel_rfl) ?_ ((Go.RE.Each.cons ?_ (Go.RE.Each.cons ?_ (Go.RE.Each.cons ?_ (Go.RE.Each.cons ?_ (Go.RE.Each.cons ?_ (Go.RE.Each.cons ?_ (Go.RE.Each.cons ?_ (Go.RE.Each.cons ?_ (Go.RE.Each.cons ?_ (Go.RE.Each.cons ?_ (Go.RE.Each.cons ?_ Go.RE.Each.nil)))))))))))) ?_
            · exact fun x => ⟨bl_dr (Below.refl _ _), fun h => (by cases h), fun h => (by cases h), fun h => (by cases h), fun h => (by cases h), fun h => (by cases h), fun h => (by cases h), fun h => (by cases h), fun h => (by cases h), fun h => (by cases h), fun h => (by cases h), fun h => (by cases h)⟩
            · intro L x a wR K hL hd hf hx hΦ hK
              obtain ⟨hI, f0, f1, f2, f3, f4, f5, f6, f7, f8, f9, f10⟩ := hΦ
              refine ⟨fun _ => ?_, fun h => absurd h (by rw [Go.RE.wanted_none rfl]; decide)⟩
              have e9 : a.tmps[9]? = some (.pointer (some ⟨B9, 0, none⟩)) := hf 9 (of_decide_eq_true (by kernel_rfl))
              clear hf hx hd
              obtain ⟨mk, mz, lp, r0, r1, r2, t0, t1, t2, u0, u1, u2, b0, b1, b2, hb, h2, h3, h5, h4⟩ := (HM9.out.below hI)
              have cc := HK.blk_cell hb
              have c0 := cc 0
              have c1 := cc 1
              have c2 := cc 2
              have c3 := cc 3
              have c4 := cc 4
              have c5 := cc 5
              have c6 := cc 6
              clear cc
              go_simp
              refine hK _ _ ?_
              exact ⟨hI, fun _ => ⟨mk, mz, lp, r0, r1, r2, t0, t1, t2, u0, u1, u2, b0, b1, b2, rfl, h2, h3, h5, h4⟩, fun h => f1 h, fun h => f2 h, fun h => f3 h, fun h => f4 h, fun h => f5 h, fun h => f6 h, fun h => f7 h, fun h => f8 h, fun h => f9 h, fun h => f10 h⟩
            · intro L x a wR K hL hd hf hx hΦ hK
              obtain ⟨hI, f0, f1, f2, f3, f4, f5, f6, f7, f8, f9, f10⟩ := hΦ
              refine ⟨fun _ => ?_, fun h => absurd h (by rw [Go.RE.wanted_none rfl]; decide)⟩
              have e10 : a.tmps[10]? = some (.pointer (some ⟨B10, 0, none⟩)) := hf 10 (of_decide_eq_true (by kernel_rfl))
              clear hf hx hd
              obtain ⟨o, nm, a0, a1, a2, s0, s1, s2, hb, h2, h3, h4⟩ := (HF10.out.below hI)
              have cc := HK.blk_cell hb
              have c0 := cc 0
              have c1 := cc 1
              have c2 := cc 2
              have c3 := cc 3
              clear cc
              go_simp
              refine hK _ _ ?_
              exact ⟨hI, fun h => f0 h, fun _ => ⟨o, nm, a0, a1, a2, s0, s1, s2, rfl, h2, h3, h4⟩, fun h => f2 h, fun h => f3 h, fun h => f4 h, fun h => f5 h, fun h => f6 h, fun h => f7 h, fun h => f8 h, fun h => f9 h, fun h => f10 h⟩
            · intro L x a wR K hL hd hf hx hΦ hK
              obtain ⟨hI, f0, f1, f2, f3, f4, f5, f6, f7, f8, f9, f10⟩ := hΦ
              refine ⟨fun _ => ?_, fun h => absurd h (by rw [Go.RE.wanted_none rfl]; decide)⟩
              have e11 : a.tmps[11]? = some (.pointer (some ⟨B11, 0, none⟩)) := hf 11 (of_decide_eq_true (by kernel_rfl))
              clear hf hx hd
              obtain ⟨o, nm, a0, a1, a2, s0, s1, s2, hb, h2, h3, h4⟩ := (HF11.out.below hI)
              have cc := HK.blk_cell hb
              have c0 := cc 0
              have c1 := cc 1
              have c2 := cc 2
              have c3 := cc 3
              clear cc
              go_simp
              refine hK _ _ ?_
              exact ⟨hI, fun h => f0 h, fun h => f1 h, fun _ => ⟨o, nm, a0, a1, a2, s0, s1, s2, rfl, h2, h3, h4⟩, fun h => f3 h, fun h => f4 h, fun h => f5 h, fun h => f6 h, fun h => f7 h, fun h => f8 h, fun h => f9 h, fun h => f10 h⟩
            · intro L x a wR K hL hd hf hx hΦ hK
              obtain ⟨hI, f0, f1, f2, f3, f4, f5, f6, f7, f8, f9, f10⟩ := hΦ
              refine ⟨fun _ => ?_, fun h => absurd h (by rw [Go.RE.wanted_none rfl]; decide)⟩
              have d1 := f1 (hd 1 (by kernel_rfl))
              have e57 : a.tmps[57]? = some (x 57) := hx 1 _ 57 rfl rfl (hd 1 (by kernel_rfl))
              have d2 := f2 (hd 2 (by kernel_rfl))
              have e58 : a.tmps[58]? = some (x 58) := hx 2 _ 58 rfl rfl (hd 2 (by kernel_rfl))
              clear hf hx hd
              obtain ⟨o, nm, a0, a1, a2, s0, s1, s2, hv, h2, h3, h4⟩ := d1
              rw [hv] at e57
              obtain ⟨o', nm', a0', a1', a2', s0', s1', s2', hv', h2', h3', h4'⟩ := d2
              rw [hv'] at e58
              go_simp
              refine hK _ _ ?_
              exact ⟨below_tr hI (below_alloc _ _), fun h => (f0 h).below (below_alloc wR _), fun h => (f1 h).below (below_alloc wR _), fun h => (f2 h).below (below_alloc wR _), fun _ => build2 h2 h3 h4 h2' h3' h4', fun h => (f4 h).below (below_alloc wR _), fun h => f5 h, fun h => f6 h, fun h => f7 h, fun h => f8 h, fun h => f9 h, fun h => f10 h⟩
            · intro L x a wR K hL hd hf hx hΦ hK
              obtain ⟨hI, f0, f1, f2, f3, f4, f5, f6, f7, f8, f9, f10⟩ := hΦ
              refine ⟨fun _ => ?_, fun h => absurd h (by rw [Go.RE.wanted_none rfl]; decide)⟩
              have d3 := f3 (hd 3 (by kernel_rfl))
              have e59 : a.tmps[59]? = some (x 59) := hx 3 _ 59 rfl rfl (hd 3 (by kernel_rfl))
              clear hf hx hd
              obtain ⟨s0, s1, s2, hv, h2⟩ := d3
              rw [hv] at e59
              have HC : Hid (Calls Tryd.prog 15 #[.int .u8 6, .slice s0 s1 s2] wR fun e w' => e = .returned (.agg #[.int .u8 6, .string ⟨#[]⟩, .slice none 0 0, .slice s0 s1 s2]) ∧ IsFv w' (.agg #[.int .u8 6, .string ⟨#[]⟩, .slice none 0 0, .slice s0 s1 s2]) (.mk 6 ⟨#[]⟩ [] [ff, gg]) ∧ Below wR.heap.size wR w') := Lib.hid (joinv (op := 6) (by omega) ⟨s0, s1, s2, rfl, h2⟩)
              go_simp
              go_at_call 15
              with_reducible refine HC.out.mono ?_
              rintro e w' ⟨rfl, hfv, hB8⟩
              simp only
              refine hK _ _ ?_
              exact ⟨below_tr hI hB8, fun h => (f0 h).below hB8, fun h => (f1 h).below hB8, fun h => (f2 h).below hB8, fun h => (f3 h).below hB8, fun _ => hfv, fun h => f5 h, fun h => f6 h, fun h => f7 h, fun h => f8 h, fun h => f9 h, fun h => f10 h⟩
            · intro L x a wR K hL hd hf hx hΦ hK
              obtain ⟨hI, f0, f1, f2, f3, f4, f5, f6, f7, f8, f9, f10⟩ := hΦ
              refine ⟨fun _ => ?_, fun h => absurd h (by rw [Go.RE.wanted_none rfl]; decide)⟩
              have d0 := f0 (hd 0 (by kernel_rfl))
              have e56 : a.tmps[56]? = some (x 56) := hx 0 _ 56 rfl rfl (hd 0 (by kernel_rfl))
              have d4 := f4 (hd 4 (by kernel_rfl))
              have e60 : a.tmps[60]? = some (x 60) := hx 4 _ 60 rfl rfl (hd 4 (by kernel_rfl))
              clear hf hx hd
              have hc := at_valv d0 d4 (HRW.out.below hI) HA3.out.1 HMO.out HA3.out.2.1 HA3.out.2.2.1 HA3.out.2.2.2
              obtain ⟨mk, mz, lp, r0, r1, r2, t0, t1, t2, u0, u1, u2, b0, b1, b2, hv, _, _, _, _⟩ := d0
              obtain ⟨o', nm', a0', a1', a2', s0', s1', s2', hv', _, _, _⟩ := d4
              rw [hv] at e56
              rw [hv'] at e60
              rw [hv, hv'] at hc
              have HC : Hid (Calls Tryd.prog 16 _ _ fun e w' => e = .returned (.tuple #[.int .i64 (vi : Int), .int .i64 0]) ∧ _) := Lib.hid hc
              clear hc
              go_simp
              go_at_call 16
              with_reducible refine HC.out.mono ?_
              rintro e w' ⟨rfl, hB8⟩
              simp only
              refine hK _ _ ?_
              exact ⟨below_tr hI hB8, fun h => (f0 h).below hB8, fun h => (f1 h).below hB8, fun h => (f2 h).below hB8, fun h => (f3 h).below hB8, fun h => (f4 h).below hB8, fun _ => rfl, fun h => f6 h, fun h => f7 h, fun h => f8 h, fun h => f9 h, fun h => f10 h⟩
            · intro L x a wR K hL hd hf hx hΦ hK
              obtain ⟨hI, f0, f1, f2, f3, f4, f5, f6, f7, f8, f9, f10⟩ := hΦ
              refine ⟨fun _ => ?_, fun h => absurd h (by rw [Go.RE.wanted_none rfl]; decide)⟩
              have d5 := f5 (hd 5 (by kernel_rfl))
              have e61 : a.tmps[61]? = some (x 61) := hx 5 _ 61 rfl rfl (hd 5 (by kernel_rfl))
              rw [d5] at e61
              clear hf hx hd
              go_simp
              refine hK _ _ ?_
              exact ⟨hI, fun h => f0 h, fun h => f1 h, fun h => f2 h, fun h => f3 h, fun h => f4 h, fun h => f5 h, fun _ => rfl, fun h => f7 h, fun h => f8 h, fun h => f9 h, fun h => f10 h⟩
            · intro L x a wR K hL hd hf hx hΦ hK
              obtain ⟨hI, f0, f1, f2, f3, f4, f5, f6, f7, f8, f9, f10⟩ := hΦ
              refine ⟨fun _ => ?_, fun h => absurd h (by rw [Go.RE.wanted_none rfl]; decide)⟩
              have d6 := f6 (hd 6 (by kernel_rfl))
              have e55 : a.tmps[55]? = some (x 55) := hx 6 _ 55 rfl rfl (hd 6 (by kernel_rfl))
              rw [d6] at e55
              clear hf hx hd
              go_simp
              refine hK _ _ ?_
              exact ⟨hI, fun h => f0 h, fun h => f1 h, fun h => f2 h, fun h => f3 h, fun h => f4 h, fun h => f5 h, fun h => f6 h, fun _ => rfl, fun h => f8 h, fun h => f9 h, fun h => f10 h⟩
            · intro L x a wR K hL hd hf hx hΦ hK
              obtain ⟨hI, f0, f1, f2, f3, f4, f5, f6, f7, f8, f9, f10⟩ := hΦ
              refine ⟨fun _ => ?_, fun h => absurd h (by rw [Go.RE.wanted_none rfl]; decide)⟩
              have d6 := f6 (hd 6 (by kernel_rfl))
              have e55 : a.tmps[55]? = some (x 55) := hx 6 _ 55 rfl rfl (hd 6 (by kernel_rfl))
              rw [d6] at e55
              clear hf hx hd
              go_simp
              refine hK _ _ ?_
              exact ⟨hI, fun h => f0 h, fun h => f1 h, fun h => f2 h, fun h => f3 h, fun h => f4 h, fun h => f5 h, fun h => f6 h, fun h => f7 h, fun _ => rfl, fun h => f9 h, fun h => f10 h⟩
            · intro L x a wR K hL hd hf hx hΦ hK
              obtain ⟨hI, f0, f1, f2, f3, f4, f5, f6, f7, f8, f9, f10⟩ := hΦ
              refine ⟨fun _ => ?_, fun h => absurd h (by rw [Go.RE.wanted_none rfl]; decide)⟩
              have d7 := f7 (hd 7 (by kernel_rfl))
              have e62 : a.tmps[62]? = some (x 62) := hx 7 _ 62 rfl rfl (hd 7 (by kernel_rfl))
              rw [d7] at e62
              clear hf hx hd
              go_simp
              refine hK _ _ ?_
              exact ⟨hI, fun h => f0 h, fun h => f1 h, fun h => f2 h, fun h => f3 h, fun h => f4 h, fun h => f5 h, fun h => f6 h, fun h => f7 h, fun h => f8 h, fun _ => rfl, fun h => f10 h⟩
            · intro L x a wR K hL hd hf hx hΦ hK
              obtain ⟨hI, f0, f1, f2, f3, f4, f5, f6, f7, f8, f9, f10⟩ := hΦ
              refine ⟨fun _ => ?_, fun h => absurd h (by rw [Go.RE.wanted_none rfl]; decide)⟩
              have d8 := f8 (hd 8 (by kernel_rfl))
              have e63 : a.tmps[63]? = some (x 63) := hx 8 _ 63 rfl rfl (hd 8 (by kernel_rfl))
              rw [d8] at e63
              clear hf hx hd
              go_simp
              refine hK _ _ ?_
              exact ⟨hI, fun h => f0 h, fun h => f1 h, fun h => f2 h, fun h => f3 h, fun h => f4 h, fun h => f5 h, fun h => f6 h, fun h => f7 h, fun h => f8 h, fun h => f9 h, fun _ => rfl⟩
            · rintro x W ⟨hI, f0, f1, f2, f3, f4, f5, f6, f7, f8, f9, f10⟩
              simp only [Exit.then]
              go_step
              go_meet
              exact ⟨f9 rfl, f10 rfl, hI⟩
          case rest =>
            obtain ⟨rfl, rfl, hB⟩ := hcut
            replace HM9 := Lib.hid (HM9.out.below hB)
            replace HSI := Lib.hid (HSI.out.below hB)
            replace HF10 := Lib.hid (HF10.out.below hB)
            replace HF11 := Lib.hid (HF11.out.below hB)
            replace HS1 := Lib.hid (HS1.out.below hB)
            replace HS2 := Lib.hid (HS2.out.below hB)
            replace HRW := Lib.hid (HRW.out.below hB)
            replace HBL := Lib.hid (below_tr HBL.out hB)
            obtain ⟨q5, hq5⟩ : ∃ q : World, q = wc := ⟨_, rfl⟩
            subst hq5
            clear hB
            go_upto_region 8 with (fail)
            go_cut [18, 19] from 64 to 72 (fun v18 v19 wx => v18 = .int .i64 (vf : Int) ∧ v19 = .int .i64 0 ∧ Below q5.heap.size q5 wx)
            case first =>
              refine Go.RE.wp_region_eachg [65, 66, 67, 68, 69, 70, 64, 71, 72, 18, 19] (fun L x W => (Below q5.heap.size q5 W) ∧ (L 0 = true → IsMv W (x 65) (mdl 3 n rl [u4, u5, u6])) ∧ (L 1 = true → IsFv W (x 66) (ff)) ∧ (L 2 = true → IsFv W (x 67) (gg)) ∧ (L 3 = true → IsFsV W (x 68) [ff, gg]) ∧ (L 4 = true → IsFv W (x 69) (.mk 7 ⟨#[]⟩ [] [ff, gg])) ∧ (L 5 = true → x 70 = .tuple #[.int .i64 (vf : Int), .int .i64 0]) ∧ (L 6 = true → x 64 = .tuple #[.int .i64 (vf : Int), .int .i64 0]) ∧ (L 7 = true → x 71 = .int .i64 (vf : Int)) ∧ (L 8 = true → x 72 = .int .i64 0) ∧ (L 9 = true → x 18 = .int .i64 (vf : Int)) ∧ (L 10 = true → x 19 = .int .i64 0)) (by kernel_rfl) (by kernel_rfl) (by kernel_rfl) ?_ ((Go.RE.Each.cons ?_ (Go.RE.Each.cons ?_ (Go.RE.Each.cons ?_ (Go.RE.Each.cons ?_ (Go.RE.Each.cons ?_ (Go.RE.Each.cons ?_ (Go.RE.Each.cons ?_ (Go.RE.Each.cons ?_ (Go.RE.Each.cons ?_ (Go.RE.Each.cons ?_ (Go.RE.Each.cons ?_ Go.RE.Each.nil)))))))))))) ?_
              · exact fun x => ⟨bl_dr (Below.refl _ _), fun h => (by cases h), fun h => (by cases h), fun h => (by cases h), fun h => (by cases h), fun h => (by cases h), fun h => (by cases h), fun h => (by cases h), fun h => (by cases h), fun h => (by cases h), fun h => (by cases h), fun h => (by cases h)⟩
              · intro L x a wR K hL hd hf hx hΦ hK
                obtain ⟨hI, f0, f1, f2, f3, f4, f5, f6, f7, f8, f9, f10⟩ := hΦ
                refine ⟨fun _ => ?_, fun h => absurd h (by rw [Go.RE.wanted_none rfl]; decide)⟩
                have e9 : a.tmps[9]? = some (.pointer (some ⟨B9, 0, none⟩)) := hf 9 (of_decide_eq_true (by kernel_rfl))
                clear hf hx hd
                obtain ⟨mk, mz, lp, r0, r1, r2, t0, t1, t2, u0, u1, u2, b0, b1, b2, hb, h2, h3, h5, h4⟩ := (HM9.out.below hI)
                have cc := HK.blk_cell hb
                have c0 := cc 0
                have c1 := cc 1
                have c2 := cc 2
                have c3 := cc 3
                have c4 := cc 4
                have c5 := cc 5
                have c6 := cc 6
                clear cc
                go_simp
                refine hK _ _ ?_
                exact ⟨hI, fun _ => ⟨mk, mz, lp, r0, r1, r2, t0, t1, t2, u0, u1, u2, b0, b1, b2, rfl, h2, h3, h5, h4⟩, fun h => f1 h, fun h => f2 h, fun h => f3 h, fun h => f4 h, fun h => f5 h, fun h => f6 h, fun h => f7 h, fun h => f8 h, fun h => f9 h, fun h => f10 h⟩
              · intro L x a wR K hL hd hf hx hΦ hK
                obtain ⟨hI, f0, f1, f2, f3, f4, f5, f6, f7, f8, f9, f10⟩ := hΦ
                refine ⟨fun _ => ?_, fun h => absurd h (by rw [Go.RE.wanted_none rfl]; decide)⟩
                have e10 : a.tmps[10]? = some (.pointer (some ⟨B10, 0, none⟩)) := hf 10 (of_decide_eq_true (by kernel_rfl))
                clear hf hx hd
                obtain ⟨o, nm, a0, a1, a2, s0, s1, s2, hb, h2, h3, h4⟩ := (HF10.out.below hI)
                have cc := HK.blk_cell hb
                have c0 := cc 0
                have c1 := cc 1
                have c2 := cc 2
                have c3 := cc 3
                clear cc
                go_simp
                refine hK _ _ ?_
                exact ⟨hI, fun h => f0 h, fun _ => ⟨o, nm, a0, a1, a2, s0, s1, s2, rfl, h2, h3, h4⟩, fun h => f2 h, fun h => f3 h, fun h => f4 h, fun h => f5 h, fun h => f6 h, fun h => f7 h, fun h => f8 h, fun h => f9 h, fun h => f10 h⟩
              · intro L x a wR K hL hd hf hx hΦ hK
                obtain ⟨hI, f0, f1, f2, f3, f4, f5, f6, f7, f8, f9, f10⟩ := hΦ
                refine ⟨fun _ => ?_, fun h => absurd h (by rw [Go.RE.wanted_none rfl]; decide)⟩
                have e11 : a.tmps[11]? = some (.pointer (some ⟨B11, 0, none⟩)) := hf 11 (of_decide_eq_true (by kernel_rfl))
                clear hf hx hd
                obtain ⟨o, nm, a0, a1, a2, s0, s1, s2, hb, h2, h3, h4⟩ := (HF11.out.below hI)
                have cc := HK.blk_cell hb
                have c0 := cc 0
                have c1 := cc 1
                have c2 := cc 2
                have c3 := cc 3
                clear cc
                go_simp
                refine hK _ _ ?_
                exact ⟨hI, fun h => f0 h, fun h => f1 h, fun _ => ⟨o, nm, a0, a1, a2, s0, s1, s2, rfl, h2, h3, h4⟩, fun h => f3 h, fun h => f4 h, fun h => f5 h, fun h => f6 h, fun h => f7 h, fun h => f8 h, fun h => f9 h, fun h => f10 h⟩
              · intro L x a wR K hL hd hf hx hΦ hK
                obtain ⟨hI, f0, f1, f2, f3, f4, f5, f6, f7, f8, f9, f10⟩ := hΦ
                refine ⟨fun _ => ?_, fun h => absurd h (by rw [Go.RE.wanted_none rfl]; decide)⟩
                have d1 := f1 (hd 1 (by kernel_rfl))
                have e66 : a.tmps[66]? = some (x 66) := hx 1 _ 66 rfl rfl (hd 1 (by kernel_rfl))
                have d2 := f2 (hd 2 (by kernel_rfl))
                have e67 : a.tmps[67]? = some (x 67) := hx 2 _ 67 rfl rfl (hd 2 (by kernel_rfl))
                clear hf hx hd
                obtain ⟨o, nm, a0, a1, a2, s0, s1, s2, hv, h2, h3, h4⟩ := d1
                rw [hv] at e66
                obtain ⟨o', nm', a0', a1', a2', s0', s1', s2', hv', h2', h3', h4'⟩ := d2
                rw [hv'] at e67
                go_simp
                refine hK _ _ ?_
                exact ⟨below_tr hI (below_alloc _ _), fun h => (f0 h).below (below_alloc wR _), fun h => (f1 h).below (below_alloc wR _), fun h => (f2 h).below (below_alloc wR _), fun _ => build2 h2 h3 h4 h2' h3' h4', fun h => (f4 h).below (below_alloc wR _), fun h => f5 h, fun h => f6 h, fun h => f7 h, fun h => f8 h, fun h => f9 h, fun h => f10 h⟩
              · intro L x a wR K hL hd hf hx hΦ hK
                obtain ⟨hI, f0, f1, f2, f3, f4, f5, f6, f7, f8, f9, f10⟩ := hΦ
                refine ⟨fun _ => ?_, fun h => absurd h (by rw [Go.RE.wanted_none rfl]; decide)⟩
                have d3 := f3 (hd 3 (by kernel_rfl))
                have e68 : a.tmps[68]? = some (x 68) := hx 3 _ 68 rfl rfl (hd 3 (by kernel_rfl))
                clear hf hx hd
                obtain ⟨s0, s1, s2, hv, h2⟩ := d3
                rw [hv] at e68
                have HC : Hid (Calls Tryd.prog 15 #[.int .u8 7, .slice s0 s1 s2] wR fun e w' => e = .returned (.agg #[.int .u8 7, .string ⟨#[]⟩, .slice none 0 0, .slice s0 s1 s2]) ∧ IsFv w' (.agg #[.int .u8 7, .string ⟨#[]⟩, .slice none 0 0, .slice s0 s1 s2]) (.mk 7 ⟨#[]⟩ [] [ff, gg]) ∧ Below wR.heap.size wR w') := Lib.hid (joinv (op := 7) (by omega) ⟨s0, s1, s2, rfl, h2⟩)
                go_simp
                go_at_call 15
                with_reducible refine HC.out.mono ?_
                rintro e w' ⟨rfl, hfv, hB8⟩
                simp only
                refine hK _ _ ?_
                exact ⟨below_tr hI hB8, fun h => (f0 h).below hB8, fun h => (f1 h).below hB8, fun h => (f2 h).below hB8, fun h => (f3 h).below hB8, fun _ => hfv, fun h => f5 h, fun h => f6 h, fun h => f7 h, fun h => f8 h, fun h => f9 h, fun h => f10 h⟩
              · intro L x a wR K hL hd hf hx hΦ hK
                obtain ⟨hI, f0, f1, f2, f3, f4, f5, f6, f7, f8, f9, f10⟩ := hΦ
                refine ⟨fun _ => ?_, fun h => absurd h (by rw [Go.RE.wanted_none rfl]; decide)⟩
                have d0 := f0 (hd 0 (by kernel_rfl))
                have e65 : a.tmps[65]? = some (x 65) := hx 0 _ 65 rfl rfl (hd 0 (by kernel_rfl))
                have d4 := f4 (hd 4 (by kernel_rfl))
                have e69 : a.tmps[69]? = some (x 69) := hx 4 _ 69 rfl rfl (hd 4 (by kernel_rfl))
                clear hf hx hd
                have hc := at_valv d0 d4 (HRW.out.below hI) HA4.out.1 HMO.out HA4.out.2.1 HA4.out.2.2.1 HA4.out.2.2.2
                obtain ⟨mk, mz, lp, r0, r1, r2, t0, t1, t2, u0, u1, u2, b0, b1, b2, hv, _, _, _, _⟩ := d0
                obtain ⟨o', nm', a0', a1', a2', s0', s1', s2', hv', _, _, _⟩ := d4
                rw [hv] at e65
                rw [hv'] at e69
                rw [hv, hv'] at hc
                have HC : Hid (Calls Tryd.prog 16 _ _ fun e w' => e = .returned (.tuple #[.int .i64 (vf : Int), .int .i64 0]) ∧ _) := Lib.hid hc
                clear hc
                go_simp
                go_at_call 16
                with_reducible refine HC.out.mono ?_
                rintro e w' ⟨rfl, hB8⟩
                simp only
                refine hK _ _ ?_
                exact ⟨below_tr hI hB8, fun h => (f0 h).below hB8, fun h => (f1 h).below hB8, fun h => (f2 h).below hB8, fun h => (f3 h).below hB8, fun h => (f4 h).below hB8, fun _ => rfl, fun h => f6 h, fun h => f7 h, fun h => f8 h, fun h => f9 h, fun h => f10 h⟩
              · intro L x a wR K hL hd hf hx hΦ hK
                obtain ⟨hI, f0, f1, f2, f3, f4, f5, f6, f7, f8, f9, f10⟩ := hΦ
                refine ⟨fun _ => ?_, fun h => absurd h (by rw [Go.RE.wanted_none rfl]; decide)⟩
                have d5 := f5 (hd 5 (by kernel_rfl))
                have e70 : a.tmps[70]? = some (x 70) := hx 5 _ 70 rfl rfl (hd 5 (by kernel_rfl))
                rw [d5] at e70
                clear hf hx hd
                go_simp
                refine hK _ _ ?_
                exact ⟨hI, fun h => f0 h, fun h => f1 h, fun h => f2 h, fun h => f3 h, fun h => f4 h, fun h => f5 h, fun _ => rfl, fun h => f7 h, fun h => f8 h, fun h => f9 h, fun h => f10 h⟩
              · intro L x a wR K hL hd hf hx hΦ hK
                obtain ⟨hI, f0, f1, f2, f3, f4, f5, f6, f7, f8, f9, f10⟩ := hΦ
                refine ⟨fun _ => ?_, fun h => absurd h (by rw [Go.RE.wanted_none rfl]; decide)⟩
                have d6 := f6 (hd 6 (by kernel_rfl))
                have e64 : a.tmps[64]? = some (x 64) := hx 6 _ 64 rfl rfl (hd 6 (by kernel_rfl))
                rw [d6] at e64
                clear hf hx hd
                go_simp
                refine hK _ _ ?_
                exact ⟨hI, fun h => f0 h, fun h => f1 h, fun h => f2 h, fun h => f3 h, fun h => f4 h, fun h => f5 h, fun h => f6 h, fun _ => rfl, fun h => f8 h, fun h => f9 h, fun h => f10 h⟩
              · intro L x a wR K hL hd hf hx hΦ hK
                obtain ⟨hI, f0, f1, f2, f3, f4, f5, f6, f7, f8, f9, f10⟩ := hΦ
                refine ⟨fun _ => ?_, fun h => absurd h (by rw [Go.RE.wanted_none rfl]; decide)⟩
                have d6 := f6 (hd 6 (by kernel_rfl))
                have e64 : a.tmps[64]? = some (x 64) := hx 6 _ 64 rfl rfl (hd 6 (by kernel_rfl))
                rw [d6] at e64
                clear hf hx hd
                go_simp
                refine hK _ _ ?_
                exact ⟨hI, fun h => f0 h, fun h => f1 h, fun h => f2 h, fun h => f3 h, fun h => f4 h, fun h => f5 h, fun h => f6 h, fun h => f7 h, fun _ => rfl, fun h => f9 h, fun h => f10 h⟩
              · intro L x a wR K hL hd hf hx hΦ hK
                obtain ⟨hI, f0, f1, f2, f3, f4, f5, f6, f7, f8, f9, f10⟩ := hΦ
                refine ⟨fun _ => ?_, fun h => absurd h (by rw [Go.RE.wanted_none rfl]; decide)⟩
                have d7 := f7 (hd 7 (by kernel_rfl))
                have e71 : a.tmps[71]? = some (x 71) := hx 7 _ 71 rfl rfl (hd 7 (by kernel_rfl))
                rw [d7] at e71
                clear hf hx hd
                go_simp
                refine hK _ _ ?_
                exact ⟨hI, fun h => f0 h, fun h => f1 h, fun h => f2 h, fun h => f3 h, fun h => f4 h, fun h => f5 h, fun h => f6 h, fun h => f7 h, fun h => f8 h, fun _ => rfl, fun h => f10 h⟩
              · intro L x a wR K hL hd hf hx hΦ hK
                obtain ⟨hI, f0, f1, f2, f3, f4, f5, f6, f7, f8, f9, f10⟩ := hΦ
                refine ⟨fun _ => ?_, fun h => absurd h (by rw [Go.RE.wanted_none rfl]; decide)⟩
                have d8 := f8 (hd 8 (by kernel_rfl))
                have e72 : a.tmps[72]? = some (x 72) := hx 8 _ 72 rfl rfl (hd 8 (by kernel_rfl))
                rw [d8] at e72
                clear hf hx hd
                go_simp
                refine hK _ _ ?_
                exact ⟨hI, fun h => f0 h, fun h => f1 h, fun h => f2 h, fun h => f3 h, fun h => f4 h, fun h => f5 h, fun h => f6 h, fun h => f7 h, fun h => f8 h, fun h => f9 h, fun _ => rfl⟩
              · rintro x W ⟨hI, f0, f1, f2, f3, f4, f5, f6, f7, f8, f9, f10⟩
                simp only [Exit.then]
                go_step
                go_meet
                exact ⟨f9 rfl, f10 rfl, hI⟩
            case rest =>
              obtain ⟨rfl, rfl, hB⟩ := hcut
              replace HM9 := Lib.hid (HM9.out.below hB)
              replace HSI := Lib.hid (HSI.out.below hB)
              replace HF10 := Lib.hid (HF10.out.below hB)
              replace HF11 := Lib.hid (HF11.out.below hB)
              replace HS1 := Lib.hid (HS1.out.below hB)
              replace HS2 := Lib.hid (HS2.out.below hB)
              replace HRW := Lib.hid (HRW.out.below hB)
              replace HBL := Lib.hid (below_tr HBL.out hB)
              obtain ⟨q6, hq6⟩ : ∃ q : World, q = wc := ⟨_, rfl⟩
              subst hq6
              clear hB
              go_upto_region 9 with (fail)
              go_cut [20, 21] from 73 to 81 (fun v20 v21 wx => v20 = .int .i64 (vc : Int) ∧ v21 = .int .i64 0 ∧ Below q6.heap.size q6 wx)
              case first =>
                refine Go.RE.wp_region_eachg [74, 75, 76, 77, 78, 79, 73, 80, 81, 20, 21] (fun L x W => (Below q6.heap.size q6 W) ∧ (L 0 = true → IsMv W (x 74) (mdl 3 n rl [u4, u5, u6])) ∧ (L 1 = true → IsFv W (x 75) (ff)) ∧ (L 2 = true → IsFv W (x 76) (gg)) ∧ (L 3 = true → IsFsV W (x 77) [ff, gg]) ∧ (L 4 = true → IsFv W (x 78) (.mk 4 ⟨#[]⟩ [] [ff, gg])) ∧ (L 5 = true → x 79 = .tuple #[.int .i64 (vc : Int), .int .i64 0]) ∧ (L 6 = true → x 73 = .tuple #[.int .i64 (vc : Int), .int .i64 0]) ∧ (L 7 = true → x 80 = .int .i64 (vc : Int)) ∧ (L 8 = true → x 81 = .int .i64 0) ∧ (L 9 = true → x 20 = .int .i64 (vc : Int)) ∧ (L 10 = true → x 21 = .int .i64 0)) (by kernel_rfl) (by kernel_rfl) (by kernel_rfl) ?_ ((Go.RE.Each.cons ?_ (Go.RE.Each.cons ?_ (Go.RE.Each.cons ?_ (Go.RE.Each.cons ?_ (Go.RE.Each.cons ?_ (Go.RE.Each.cons ?_ (Go.RE.Each.cons ?_ (Go.RE.Each.cons ?_ (Go.RE.Each.cons ?_ (Go.RE.Each.cons ?_ (Go.RE.Each.cons ?_ Go.RE.Each.nil)))))))))))) ?_
                · exact fun x => ⟨bl_dr (Below.refl _ _), fun h => (by cases h), fun h => (by cases h), fun h => (by cases h), fun h => (by cases h), fun h => (by cases h), fun h => (by cases h), fun h => (by cases h), fun h => (by cases h), fun h => (by cases h), fun h => (by cases h), fun h => (by cases h)⟩
                · intro L x a wR K hL hd hf hx hΦ hK
                  obtain ⟨hI, f0, f1, f2, f3, f4, f5, f6, f7, f8, f9, f10⟩ := hΦ
                  refine ⟨fun _ => ?_, fun h => absurd h (by rw [Go.RE.wanted_none rfl]; decide)⟩
                  have e9 : a.tmps[9]? = some (.pointer (some ⟨B9, 0, none⟩)) := hf 9 (of_decide_eq_true (by kernel_rfl))
                  clear hf hx hd
                  obtain ⟨mk, mz, lp, r0, r1, r2, t0, t1, t2, u0, u1, u2, b0, b1, b2, hb, h2, h3, h5, h4⟩ := (HM9.out.below hI)
                  have cc := HK.blk_cell hb
                  have c0 := cc 0
                  have c1 := cc 1
                  have c2 := cc 2
                  have c3 := cc 3
                  have c4 := cc 4
                  have c5 := cc 5
                  have c6 := cc 6
                  clear cc
                  go_simp
                  refine hK _ _ ?_
                  exact ⟨hI, fun _ => ⟨mk, mz, lp, r0, r1, r2, t0, t1, t2, u0, u1, u2, b0, b1, b2, rfl, h2, h3, h5, h4⟩, fun h => f1 h, fun h => f2 h, fun h => f3 h, fun h => f4 h, fun h => f5 h, fun h => f6 h, fun h => f7 h, fun h => f8 h, fun h => f9 h, fun h => f10 h⟩
                · intro L x a wR K hL hd hf hx hΦ hK
                  obtain ⟨hI, f0, f1, f2, f3, f4, f5, f6, f7, f8, f9, f10⟩ := hΦ
                  refine ⟨fun _ => ?_, fun h => absurd h (by rw [Go.RE.wanted_none rfl]; decide)⟩
                  have e10 : a.tmps[10]? = some (.pointer (some ⟨B10, 0, none⟩)) := hf 10 (of_decide_eq_true (by kernel_rfl))
                  clear hf hx hd
                  obtain ⟨o, nm, a0, a1, a2, s0, s1, s2, hb, h2, h3, h4⟩ := (HF10.out.below hI)
                  have cc := HK.blk_cell hb
                  have c0 := cc 0
                  have c1 := cc 1
                  have c2 := cc 2
                  have c3 := cc 3
                  clear cc
                  go_simp
                  refine hK _ _ ?_
                  exact ⟨hI, fun h => f0 h, fun _ => ⟨o, nm, a0, a1, a2, s0, s1, s2, rfl, h2, h3, h4⟩, fun h => f2 h, fun h => f3 h, fun h => f4 h, fun h => f5 h, fun h => f6 h, fun h => f7 h, fun h => f8 h, fun h => f9 h, fun h => f10 h⟩
                · intro L x a wR K hL hd hf hx hΦ hK
                  obtain ⟨hI, f0, f1, f2, f3, f4, f5, f6, f7, f8, f9, f10⟩ := hΦ
                  refine ⟨fun _ => ?_, fun h => absurd h (by rw [Go.RE.wanted_none rfl]; decide)⟩
                  have e11 : a.tmps[11]? = some (.pointer (some ⟨B11, 0, none⟩)) := hf 11 (of_decide_eq_true (by kernel_rfl))
                  clear hf hx hd
                  obtain ⟨o, nm, a0, a1, a2, s0, s1, s2, hb, h2, h3, h4⟩ := (HF11.out.below hI)
                  have cc := HK.blk_cell hb
                  have c0 := cc 0
                  have c1 := cc 1
                  have c2 := cc 2
                  have c3 := cc 3
                  clear cc
                  go_simp
                  refine hK _ _ ?_
                  exact ⟨hI, fun h => f0 h, fun h => f1 h, fun _ => ⟨o, nm, a0, a1, a2, s0, s1, s2, rfl, h2, h3, h4⟩, fun h => f3 h, fun h => f4 h, fun h => f5 h, fun h => f6 h, fun h => f7 h, fun h => f8 h, fun h => f9 h, fun h => f10 h⟩
                · intro L x a wR K hL hd hf hx hΦ hK
                  obtain ⟨hI, f0, f1, f2, f3, f4, f5, f6, f7, f8, f9, f10⟩ := hΦ
                  refine ⟨fun _ => ?_, fun h => absurd h (by rw [Go.RE.wanted_none rfl]; decide)⟩
                  have d1 := f1 (hd 1 (by kernel_rfl))
                  have e75 : a.tmps[75]? = some (x 75) := hx 1 _ 75 rfl rfl (hd 1 (by kernel_rfl))
                  have d2 := f2 (hd 2 (by kernel_rfl))
                  have e76 : a.tmps[76]? = some (x 76) := hx 2 _ 76 rfl rfl (hd 2 (by kernel_rfl))
                  clear hf hx hd
                  obtain ⟨o, nm, a0, a1, a2, s0, s1, s2, hv, h2, h3, h4⟩ := d1
                  rw [hv] at e75
                  obtain ⟨o', nm', a0', a1', a2', s0', s1', s2', hv', h2', h3', h4'⟩ := d2
                  rw [hv'] at e76
                  go_simp
                  refine hK _ _ ?_
                  exact ⟨below_tr hI (below_alloc _ _), fun h => (f0 h).below (below_alloc wR _), fun h => (f1 h).below (below_alloc wR _), fun h => (f2 h).below (below_alloc wR _), fun _ => build2 h2 h3 h4 h2' h3' h4', fun h => (f4 h).below (below_alloc wR _), fun h => f5 h, fun h => f6 h, fun h => f7 h, fun h => f8 h, fun h => f9 h, fun h => f10 h⟩
                · intro L x a wR K hL hd hf hx hΦ hK
                  obtain ⟨hI, f0, f1, f2, f3, f4, f5, f6, f7, f8, f9, f10⟩ := hΦ
                  refine ⟨fun _ => ?_, fun h => absurd h (by rw [Go.RE.wanted_none rfl]; decide)⟩
                  have d3 := f3 (hd 3 (by kernel_rfl))
                  have e77 : a.tmps[77]? = some (x 77) := hx 3 _ 77 rfl rfl (hd 3 (by kernel_rfl))
                  clear hf hx hd
                  obtain ⟨s0, s1, s2, hv, h2⟩ := d3
                  rw [hv] at e77
                  have HC : Hid (Calls Tryd.prog 15 #[.int .u8 4, .slice s0 s1 s2] wR fun e w' => e = .returned (.agg #[.int .u8 4, .string ⟨#[]⟩, .slice none 0 0, .slice s0 s1 s2]) ∧ IsFv w' (.agg #[.int .u8 4, .string ⟨#[]⟩, .slice none 0 0, .slice s0 s1 s2]) (.mk 4 ⟨#[]⟩ [] [ff, gg]) ∧ Below wR.heap.size wR w') := Lib.hid (joinv (op := 4) (by omega) ⟨s0, s1, s2, rfl, h2⟩)
                  go_simp
                  go_at_call 15
                  with_reducible refine HC.out.mono ?_
                  rintro e w' ⟨rfl, hfv, hB8⟩
                  simp only
                  refine hK _ _ ?_
                  exact ⟨below_tr hI hB8, fun h => (f0 h).below hB8, fun h => (f1 h).below hB8, fun h => (f2 h).below hB8, fun h => (f3 h).below hB8, fun _ => hfv, fun h => f5 h, fun h => f6 h, fun h => f7 h, fun h => f8 h, fun h => f9 h, fun h => f10 h⟩
                · intro L x a wR K hL hd hf hx hΦ hK
                  obtain ⟨hI, f0, f1, f2, f3, f4, f5, f6, f7, f8, f9, f10⟩ := hΦ
                  refine ⟨fun _ => ?_, fun h => absurd h (by rw [Go.RE.wanted_none rfl]; decide)⟩
                  have d0 := f0 (hd 0 (by kernel_rfl))
                  have e74 : a.tmps[74]? = some (x 74) := hx 0 _ 74 rfl rfl (hd 0 (by kernel_rfl))
                  have d4 := f4 (hd 4 (by kernel_rfl))
                  have e78 : a.tmps[78]? = some (x 78) := hx 4 _ 78 rfl rfl (hd 4 (by kernel_rfl))
                  clear hf hx hd
                  have hc := at_valv d0 d4 (HRW.out.below hI) HA5.out.1 HMO.out HA5.out.2.1 HA5.out.2.2.1 HA5.out.2.2.2
                  obtain ⟨mk, mz, lp, r0, r1, r2, t0, t1, t2, u0, u1, u2, b0, b1, b2, hv, _, _, _, _⟩ := d0
                  obtain ⟨o', nm', a0', a1', a2', s0', s1', s2', hv', _, _, _⟩ := d4
                  rw [hv] at e74
                  rw [hv'] at e78
                  rw [hv, hv'] at hc
                  have HC : Hid (Calls Tryd.prog 16 _ _ fun e w' => e = .returned (.tuple #[.int .i64 (vc : Int), .int .i64 0]) ∧ _) := Lib.hid hc
                  clear hc
                  go_simp
                  go_at_call 16
                  with_reducible refine HC.out.mono ?_
                  rintro e w' ⟨rfl, hB8⟩
                  simp only
                  refine hK _ _ ?_
                  exact ⟨below_tr hI hB8, fun h => (f0 h).below hB8, fun h => (f1 h).below hB8, fun h => (f2 h).below hB8, fun h => (f3 h).below hB8, fun h => (f4 h).below hB8, fun _ => rfl, fun h => f6 h, fun h => f7 h, fun h => f8 h, fun h => f9 h, fun h => f10 h⟩
                · intro L x a wR K hL hd hf hx hΦ hK
                  obtain ⟨hI, f0, f1, f2, f3, f4, f5, f6, f7, f8, f9, f10⟩ := hΦ
                  refine ⟨fun _ => ?_, fun h => absurd h (by rw [Go.RE.wanted_none rfl]; decide)⟩
                  have d5 := f5 (hd 5 (by kernel_rfl))
                  have e79 : a.tmps[79]? = some (x 79) := hx 5 _ 79 rfl rfl (hd 5 (by kernel_rfl))
                  rw [d5] at e79
                  clear hf hx hd
                  go_simp
                  refine hK _ _ ?_
                  exact ⟨hI, fun h => f0 h, fun h => f1 h, fun h => f2 h, fun h => f3 h, fun h => f4 h, fun h => f5 h, fun _ => rfl, fun h => f7 h, fun h => f8 h, fun h => f9 h, fun h => f10 h⟩
                · intro L x a wR K hL hd hf hx hΦ hK
                  obtain ⟨hI, f0, f1, f2, f3, f4, f5, f6, f7, f8, f9, f10⟩ := hΦ
                  refine ⟨fun _ => ?_, fun h => absurd h (by rw [Go.RE.wanted_none rfl]; decide)⟩
                  have d6 := f6 (hd 6 (by kernel_rfl))
                  have e73 : a.tmps[73]? = some (x 73) := hx 6 _ 73 rfl rfl (hd 6 (by kernel_rfl))
                  rw [d6] at e73
                  clear hf hx hd
                  go_simp
                  refine hK _ _ ?_
                  exact ⟨hI, fun h => f0 h, fun h => f1 h, fun h => f2 h, fun h => f3 h, fun h => f4 h, fun h => f5 h, fun h => f6 h, fun _ => rfl, fun h => f8 h, fun h => f9 h, fun h => f10 h⟩
                · intro L x a wR K hL hd hf hx hΦ hK
                  obtain ⟨hI, f0, f1, f2, f3, f4, f5, f6, f7, f8, f9, f10⟩ := hΦ
                  refine ⟨fun _ => ?_, fun h => absurd h (by rw [Go.RE.wanted_none rfl]; decide)⟩
                  have d6 := f6 (hd 6 (by kernel_rfl))
                  have e73 : a.tmps[73]? = some (x 73) := hx 6 _ 73 rfl rfl (hd 6 (by kernel_rfl))
                  rw [d6] at e73
                  clear hf hx hd
                  go_simp
                  refine hK _ _ ?_
                  exact ⟨hI, fun h => f0 h, fun h => f1 h, fun h => f2 h, fun h => f3 h, fun h => f4 h, fun h => f5 h, fun h => f6 h, fun h => f7 h, fun _ => rfl, fun h => f9 h, fun h => f10 h⟩
                · intro L x a wR K hL hd hf hx hΦ hK
                  obtain ⟨hI, f0, f1, f2, f3, f4, f5, f6, f7, f8, f9, f10⟩ := hΦ
                  refine ⟨fun _ => ?_, fun h => absurd h (by rw [Go.RE.wanted_none rfl]; decide)⟩
                  have d7 := f7 (hd 7 (by kernel_rfl))
                  have e80 : a.tmps[80]? = some (x 80) := hx 7 _ 80 rfl rfl (hd 7 (by kernel_rfl))
                  rw [d7] at e80
                  clear hf hx hd
                  go_simp
                  refine hK _ _ ?_
                  exact ⟨hI, fun h => f0 h, fun h => f1 h, fun h => f2 h, fun h => f3 h, fun h => f4 h, fun h => f5 h, fun h => f6 h, fun h => f7 h, fun h => f8 h, fun _ => rfl, fun h => f10 h⟩
                · intro L x a wR K hL hd hf hx hΦ hK
                  obtain ⟨hI, f0, f1, f2, f3, f4, f5, f6, f7, f8, f9, f10⟩ := hΦ
                  refine ⟨fun _ => ?_, fun h => absurd h (by rw [Go.RE.wanted_none rfl]; decide)⟩
                  have d8 := f8 (hd 8 (by kernel_rfl))
                  have e81 : a.tmps[81]? = some (x 81) := hx 8 _ 81 rfl rfl (hd 8 (by kernel_rfl))
                  rw [d8] at e81
                  clear hf hx hd
                  go_simp
                  refine hK _ _ ?_
                  exact ⟨hI, fun h => f0 h, fun h => f1 h, fun h => f2 h, fun h => f3 h, fun h => f4 h, fun h => f5 h, fun h => f6 h, fun h => f7 h, fun h => f8 h, fun h => f9 h, fun _ => rfl⟩
                · rintro x W ⟨hI, f0, f1, f2, f3, f4, f5, f6, f7, f8, f9, f10⟩
                  simp only [Exit.then]
                  go_step
                  go_meet
                  exact ⟨f9 rfl, f10 rfl, hI⟩
              case rest =>
                obtain ⟨rfl, rfl, hB⟩ := hcut
                replace HM9 := Lib.hid (HM9.out.below hB)
                replace HSI := Lib.hid (HSI.out.below hB)
                replace HF10 := Lib.hid (HF10.out.below hB)
                replace HF11 := Lib.hid (HF11.out.below hB)
                replace HS1 := Lib.hid (HS1.out.below hB)
                replace HS2 := Lib.hid (HS2.out.below hB)
                replace HRW := Lib.hid (HRW.out.below hB)
                replace HBL := Lib.hid (below_tr HBL.out hB)
                obtain ⟨q7, hq7⟩ : ∃ q : World, q = wc := ⟨_, rfl⟩
                subst hq7
                clear hB
                go_upto_region 10 with (fail)
                go_cut [22, 23] from 82 to 90 (fun v22 v23 wx => v22 = .int .i64 (vo : Int) ∧ v23 = .int .i64 0 ∧ Below q7.heap.size q7 wx)
                case first =>
                  refine Go.RE.wp_region_eachg [83, 84, 85, 86, 87, 88, 82, 89, 90, 22, 23] (fun L x W => (Below q7.heap.size q7 W) ∧ (L 0 = true → IsMv W (x 83) (mdl 3 n rl [u4, u5, u6])) ∧ (L 1 = true → IsFv W (x 84) (ff)) ∧ (L 2 = true → IsFv W (x 85) (gg)) ∧ (L 3 = true → IsFsV W (x 86) [ff, gg]) ∧ (L 4 = true → IsFv W (x 87) (.mk 5 ⟨#[]⟩ [] [ff, gg])) ∧ (L 5 = true → x 88 = .tuple #[.int .i64 (vo : Int), .int .i64 0]) ∧ (L 6 = true → x 82 = .tuple #[.int .i64 (vo : Int), .int .i64 0]) ∧ (L 7 = true → x 89 = .int .i64 (vo : Int)) ∧ (L 8 = true → x 90 = .int .i64 0) ∧ (L 9 = true → x 22 = .int .i64 (vo : Int)) ∧ (L 10 = true → x 23 = .int .i64 0)) (by kernel_rfl) (by kernel_rfl) (by kernel_rfl) ?_ ((Go.RE.Each.cons ?_ (Go.RE.Each.cons ?_ (Go.RE.Each.cons ?_ (Go.RE.Each.cons ?_ (Go.RE.Each.cons ?_ (Go.RE.Each.cons ?_ (Go.RE.Each.cons ?_ (Go.RE.Each.cons ?_ (Go.RE.Each.cons ?_ (Go.RE.Each.cons ?_ (Go.RE.Each.cons ?_ Go.RE.Each.nil)))))))))))) ?_
                  · exact fun x => ⟨bl_dr (Below.refl _ _), fun h => (by cases h), fun h => (by cases h), fun h => (by cases h), fun h => (by cases h), fun h => (by cases h), fun h => (by cases h), fun h => (by cases h), fun h => (by cases h), fun h => (by cases h), fun h => (by cases h), fun h => (by cases h)⟩
                  · intro L x a wR K hL hd hf hx hΦ hK
                    obtain ⟨hI, f0, f1, f2, f3, f4, f5, f6, f7, f8, f9, f10⟩ := hΦ
                    refine ⟨fun _ => ?_, fun h => absurd h (by rw [Go.RE.wanted_none rfl]; decide)⟩
                    have e9 : a.tmps[9]? = some (.pointer (some ⟨B9, 0, none⟩)) := hf 9 (of_decide_eq_true (by kernel_rfl))
                    clear hf hx hd
                    obtain ⟨mk, mz, lp, r0, r1, r2, t0, t1, t2, u0, u1, u2, b0, b1, b2, hb, h2, h3, h5, h4⟩ := (HM9.out.below hI)
                    have cc := HK.blk_cell hb
                    have c0 := cc 0
                    have c1 := cc 1
                    have c2 := cc 2
                    have c3 := cc 3
                    have c4 := cc 4
                    have c5 := cc 5
                    have c6 := cc 6
                    clear cc
                    go_simp
                    refine hK _ _ ?_
                    exact ⟨hI, fun _ => ⟨mk, mz, lp, r0, r1, r2, t0, t1, t2, u0, u1, u2, b0, b1, b2, rfl, h2, h3, h5, h4⟩, fun h => f1 h, fun h => f2 h, fun h => f3 h, fun h => f4 h, fun h => f5 h, fun h => f6 h, fun h => f7 h, fun h => f8 h, fun h => f9 h, fun h => f10 h⟩
                  · intro L x a wR K hL hd hf hx hΦ hK
                    obtain ⟨hI, f0, f1, f2, f3, f4, f5, f6, f7, f8, f9, f10⟩ := hΦ
                    refine ⟨fun _ => ?_, fun h => absurd h (by rw [Go.RE.wanted_none rfl]; decide)⟩
                    have e10 : a.tmps[10]? = some (.pointer (some ⟨B10, 0, none⟩)) := hf 10 (of_decide_eq_true (by kernel_rfl))
                    clear hf hx hd
                    obtain ⟨o, nm, a0, a1, a2, s0, s1, s2, hb, h2, h3, h4⟩ := (HF10.out.below hI)
                    have cc := HK.blk_cell hb
                    have c0 := cc 0
                    have c1 := cc 1
                    have c2 := cc 2
                    have c3 := cc 3
                    clear cc
                    go_simp
                    refine hK _ _ ?_
                    exact ⟨hI, fun h => f0 h, fun _ => ⟨o, nm, a0, a1, a2, s0, s1, s2, rfl, h2, h3, h4⟩, fun h => f2 h, fun h => f3 h, fun h => f4 h, fun h => f5 h, fun h => f6 h, fun h => f7 h, fun h => f8 h, fun h => f9 h, fun h => f10 h⟩
                  · intro L x a wR K hL hd hf hx hΦ hK
                    obtain ⟨hI, f0, f1, f2, f3, f4, f5, f6, f7, f8, f9, f10⟩ := hΦ
                    refine ⟨fun _ => ?_, fun h => absurd h (by rw [Go.RE.wanted_none rfl]; decide)⟩
                    have e11 : a.tmps[11]? = some (.pointer (some ⟨B11, 0, none⟩)) := hf 11 (of_decide_eq_true (by kernel_rfl))
                    clear hf hx hd
                    obtain ⟨o, nm, a0, a1, a2, s0, s1, s2, hb, h2, h3, h4⟩ := (HF11.out.below hI)
                    have cc := HK.blk_cell hb
                    have c0 := cc 0
                    have c1 := cc 1
                    have c2 := cc 2
                    have c3 := cc 3
                    clear cc
                    go_simp
                    refine hK _ _ ?_
                    exact ⟨hI, fun h => f0 h, fun h => f1 h, fun _ => ⟨o, nm, a0, a1, a2, s0, s1, s2, rfl, h2, h3, h4⟩, fun h => f3 h, fun h => f4 h, fun h => f5 h, fun h => f6 h, fun h => f7 h, fun h => f8 h, fun h => f9 h, fun h => f10 h⟩
                  · intro L x a wR K hL hd hf hx hΦ hK
                    obtain ⟨hI, f0, f1, f2, f3, f4, f5, f6, f7, f8, f9, f10⟩ := hΦ
                    refine ⟨fun _ => ?_, fun h => absurd h (by rw [Go.RE.wanted_none rfl]; decide)⟩
                    have d1 := f1 (hd 1 (by kernel_rfl))
                    have e84 : a.tmps[84]? = some (x 84) := hx 1 _ 84 rfl rfl (hd 1 (by kernel_rfl))
                    have d2 := f2 (hd 2 (by kernel_rfl))
                    have e85 : a.tmps[85]? = some (x 85) := hx 2 _ 85 rfl rfl (hd 2 (by kernel_rfl))
                    clear hf hx hd
                    obtain ⟨o, nm, a0, a1, a2, s0, s1, s2, hv, h2, h3, h4⟩ := d1
                    rw [hv] at e84
                    obtain ⟨o', nm', a0', a1', a2', s0', s1', s2', hv', h2', h3', h4'⟩ := d2
                    rw [hv'] at e85
                    go_simp
                    refine hK _ _ ?_
                    exact ⟨below_tr hI (below_alloc _ _), fun h => (f0 h).below (below_alloc wR _), fun h => (f1 h).below (below_alloc wR _), fun h => (f2 h).below (below_alloc wR _), fun _ => build2 h2 h3 h4 h2' h3' h4', fun h => (f4 h).below (below_alloc wR _), fun h => f5 h, fun h => f6 h, fun h => f7 h, fun h => f8 h, fun h => f9 h, fun h => f10 h⟩
                  · intro L x a wR K hL hd hf hx hΦ hK
                    obtain ⟨hI, f0, f1, f2, f3, f4, f5, f6, f7, f8, f9, f10⟩ := hΦ
                    refine ⟨fun _ => ?_, fun h => absurd h (by rw [Go.RE.wanted_none rfl]; decide)⟩
                    have d3 := f3 (hd 3 (by kernel_rfl))
                    have e86 : a.tmps[86]? = some (x 86) := hx 3 _ 86 rfl rfl (hd 3 (by kernel_rfl))
                    clear hf hx hd
                    obtain ⟨s0, s1, s2, hv, h2⟩ := d3
                    rw [hv] at e86
                    have HC : Hid (Calls Tryd.prog 15 #[.int .u8 5, .slice s0 s1 s2] wR fun e w' => e = .returned (.agg #[.int .u8 5, .string ⟨#[]⟩, .slice none 0 0, .slice s0 s1 s2]) ∧ IsFv w' (.agg #[.int .u8 5, .string ⟨#[]⟩, .slice none 0 0, .slice s0 s1 s2]) (.mk 5 ⟨#[]⟩ [] [ff, gg]) ∧ Below wR.heap.size wR w') := Lib.hid (joinv (op := 5) (by omega) ⟨s0, s1, s2, rfl, h2⟩)
                    go_simp
                    go_at_call 15
                    with_reducible refine HC.out.mono ?_
                    rintro e w' ⟨rfl, hfv, hB8⟩
                    simp only
                    refine hK _ _ ?_
                    exact ⟨below_tr hI hB8, fun h => (f0 h).below hB8, fun h => (f1 h).below hB8, fun h => (f2 h).below hB8, fun h => (f3 h).below hB8, fun _ => hfv, fun h => f5 h, fun h => f6 h, fun h => f7 h, fun h => f8 h, fun h => f9 h, fun h => f10 h⟩
                  · intro L x a wR K hL hd hf hx hΦ hK
                    obtain ⟨hI, f0, f1, f2, f3, f4, f5, f6, f7, f8, f9, f10⟩ := hΦ
                    refine ⟨fun _ => ?_, fun h => absurd h (by rw [Go.RE.wanted_none rfl]; decide)⟩
                    have d0 := f0 (hd 0 (by kernel_rfl))
                    have e83 : a.tmps[83]? = some (x 83) := hx 0 _ 83 rfl rfl (hd 0 (by kernel_rfl))
                    have d4 := f4 (hd 4 (by kernel_rfl))
                    have e87 : a.tmps[87]? = some (x 87) := hx 4 _ 87 rfl rfl (hd 4 (by kernel_rfl))
                    clear hf hx hd
                    have hc := at_valv d0 d4 (HRW.out.below hI) HA6.out.1 HMO.out HA6.out.2.1 HA6.out.2.2.1 HA6.out.2.2.2
                    obtain ⟨mk, mz, lp, r0, r1, r2, t0, t1, t2, u0, u1, u2, b0, b1, b2, hv, _, _, _, _⟩ := d0
                    obtain ⟨o', nm', a0', a1', a2', s0', s1', s2', hv', _, _, _⟩ := d4
                    rw [hv] at e83
                    rw [hv'] at e87
                    rw [hv, hv'] at hc
                    have HC : Hid (Calls Tryd.prog 16 _ _ fun e w' => e = .returned (.tuple #[.int .i64 (vo : Int), .int .i64 0]) ∧ _) := Lib.hid hc
                    clear hc
                    go_simp
                    go_at_call 16
                    with_reducible refine HC.out.mono ?_
                    rintro e w' ⟨rfl, hB8⟩
                    simp only
                    refine hK _ _ ?_
                    exact ⟨below_tr hI hB8, fun h => (f0 h).below hB8, fun h => (f1 h).below hB8, fun h => (f2 h).below hB8, fun h => (f3 h).below hB8, fun h => (f4 h).below hB8, fun _ => rfl, fun h => f6 h, fun h => f7 h, fun h => f8 h, fun h => f9 h, fun h => f10 h⟩
                  · intro L x a wR K hL hd hf hx hΦ hK
                    obtain ⟨hI, f0, f1, f2, f3, f4, f5, f6, f7, f8, f9, f10⟩ := hΦ
                    refine ⟨fun _ => ?_, fun h => absurd h (by rw [Go.RE.wanted_none rfl]; decide)⟩
                    have d5 := f5 (hd 5 (by kernel_rfl))
                    have e88 : a.tmps[88]? = some (x 88) := hx 5 _ 88 rfl rfl (hd 5 (by kernel_rfl))
                    rw [d5] at e88
                    clear hf hx hd
                    go_simp
                    refine hK _ _ ?_
                    exact ⟨hI, fun h => f0 h, fun h => f1 h, fun h => f2 h, fun h => f3 h, fun h => f4 h, fun h => f5 h, fun _ => rfl, fun h => f7 h, fun h => f8 h, fun h => f9 h, fun h => f10 h⟩
                  · intro L x a wR K hL hd hf hx hΦ hK
                    obtain ⟨hI, f0, f1, f2, f3, f4, f5, f6, f7, f8, f9, f10⟩ := hΦ
                    refine ⟨fun _ => ?_, fun h => absurd h (by rw [Go.RE.wanted_none rfl]; decide)⟩
                    have d6 := f6 (hd 6 (by kernel_rfl))
                    have e82 : a.tmps[82]? = some (x 82) := hx 6 _ 82 rfl rfl (hd 6 (by kernel_rfl))
                    rw [d6] at e82
                    clear hf hx hd
                    go_simp
                    refine hK _ _ ?_
                    exact ⟨hI, fun h => f0 h, fun h => f1 h, fun h => f2 h, fun h => f3 h, fun h => f4 h, fun h => f5 h, fun h => f6 h, fun _ => rfl, fun h => f8 h, fun h => f9 h, fun h => f10 h⟩
                  · intro L x a wR K hL hd hf hx hΦ hK
                    obtain ⟨hI, f0, f1, f2, f3, f4, f5, f6, f7, f8, f9, f10⟩ := hΦ
                    refine ⟨fun _ => ?_, fun h => absurd h (by rw [Go.RE.wanted_none rfl]; decide)⟩
                    have d6 := f6 (hd 6 (by kernel_rfl))
                    have e82 : a.tmps[82]? = some (x 82) := hx 6 _ 82 rfl rfl (hd 6 (by kernel_rfl))
                    rw [d6] at e82
                    clear hf hx hd
                    go_simp
                    refine hK _ _ ?_
                    exact ⟨hI, fun h => f0 h, fun h => f1 h, fun h => f2 h, fun h => f3 h, fun h => f4 h, fun h => f5 h, fun h => f6 h, fun h => f7 h, fun _ => rfl, fun h => f9 h, fun h => f10 h⟩
                  · intro L x a wR K hL hd hf hx hΦ hK
                    obtain ⟨hI, f0, f1, f2, f3, f4, f5, f6, f7, f8, f9, f10⟩ := hΦ
                    refine ⟨fun _ => ?_, fun h => absurd h (by rw [Go.RE.wanted_none rfl]; decide)⟩
                    have d7 := f7 (hd 7 (by kernel_rfl))
                    have e89 : a.tmps[89]? = some (x 89) := hx 7 _ 89 rfl rfl (hd 7 (by kernel_rfl))
                    rw [d7] at e89
                    clear hf hx hd
                    go_simp
                    refine hK _ _ ?_
                    exact ⟨hI, fun h => f0 h, fun h => f1 h, fun h => f2 h, fun h => f3 h, fun h => f4 h, fun h => f5 h, fun h => f6 h, fun h => f7 h, fun h => f8 h, fun _ => rfl, fun h => f10 h⟩
                  · intro L x a wR K hL hd hf hx hΦ hK
                    obtain ⟨hI, f0, f1, f2, f3, f4, f5, f6, f7, f8, f9, f10⟩ := hΦ
                    refine ⟨fun _ => ?_, fun h => absurd h (by rw [Go.RE.wanted_none rfl]; decide)⟩
                    have d8 := f8 (hd 8 (by kernel_rfl))
                    have e90 : a.tmps[90]? = some (x 90) := hx 8 _ 90 rfl rfl (hd 8 (by kernel_rfl))
                    rw [d8] at e90
                    clear hf hx hd
                    go_simp
                    refine hK _ _ ?_
                    exact ⟨hI, fun h => f0 h, fun h => f1 h, fun h => f2 h, fun h => f3 h, fun h => f4 h, fun h => f5 h, fun h => f6 h, fun h => f7 h, fun h => f8 h, fun h => f9 h, fun _ => rfl⟩
                  · rintro x W ⟨hI, f0, f1, f2, f3, f4, f5, f6, f7, f8, f9, f10⟩
                    simp only [Exit.then]
                    go_step
                    go_meet
                    exact ⟨f9 rfl, f10 rfl, hI⟩
                case rest =>
                  obtain ⟨rfl, rfl, hB⟩ := hcut
                  replace HM9 := Lib.hid (HM9.out.below hB)
                  replace HSI := Lib.hid (HSI.out.below hB)
                  replace HF10 := Lib.hid (HF10.out.below hB)
                  replace HF11 := Lib.hid (HF11.out.below hB)
                  replace HS1 := Lib.hid (HS1.out.below hB)
                  replace HS2 := Lib.hid (HS2.out.below hB)
                  replace HRW := Lib.hid (HRW.out.below hB)
                  replace HBL := Lib.hid (below_tr HBL.out hB)
                  obtain ⟨q8, hq8⟩ : ∃ q : World, q = wc := ⟨_, rfl⟩
                  subst hq8
                  clear hB
                  go_upto_region 11 with (fail)
                  go_cut [116] from 91 to 115 (fun v wx => v = .bool false ∧ q8 = wx)
                  case first =>
                    have hv16 := HV16.out
                    have e1 : bits .and .i64 (va : Int) (vb : Int) = (vc : Int) := by rw [bits_and va vb (by omega) (by omega), HP1.out]
                    have e2 : bits .or .i64 (va : Int) (vb : Int) = (vo : Int) := by rw [bits_or va vb (by omega) (by omega), HP2.out]
                    clear hv16
                    go_wp2_with (fail)
                    go_meet
                    exact ⟨rfl, rfl⟩
                  case rest =>
                    obtain ⟨rfl, rfl⟩ := hcut
                    obtain ⟨hb0, ho1, ho2, hfgB, hgB, hwfg⟩ := HOW.out
                    obtain ⟨n1, n4⟩ := HN14.out
                    have hsi : Below q1.heap.size q1 q8 := HSI.out
                    have hbx : q8.heap[B9]? = some (.cells #[.int .u8 3, .int .i64 (n : Int), .slice (some ⟨g9, 0, none⟩) n c9, .int .i64 0, .slice (some ⟨fg9, 0, none⟩) 3 fc9, .slice none 0 0, .slice none 0 0] 30 (0, 0)) := blk_up9 hsi hb0
                    have hrow := own_below9 ho1 hsi
                    have hfcb : FcB fg9 (fun j => [u4, u5, u6].getD j 0) q8 := (fcB_own ho2).below hsi
                    have HBX := Lib.hid hbx
                    have HROW := Lib.hid hrow
                    have HFC := Lib.hid hfcb
                    have HNE : Hid (g9 ≠ fg9 ∧ fg9 < B9 ∧ g9 < B9 ∧ fg9 < q1.heap.size ∧ w.heap.size ≤ fg9) := Lib.hid ⟨types_ne ho1 ho2, hfgB, hgB, own_lt9 ho2 fg9 rfl, hwfg⟩
                    have c1 := HK.blk_cell hbx 1
                    clear hb0 ho1 ho2 hfgB hgB hsi hrow hfcb hbx hwfg
                    go_wp2_with (fail)
                    go_loopw [24] (fun i wr => ∃ k : Nat, k ≤ n ∧ i = .int .i64 k ∧ q8 = wr) (fun i _ => n - (intOf i).toNat)
                    case atStart => exact ⟨0, by omega, rfl, rfl⟩
                    case round =>
                      obtain ⟨k, hk, rfl, rfl⟩ := hrel
                      have c1 := HK.blk_cell HBX.out 1
                      by_cases hkn : (k : Int) < (n : Int)
                      · have b0 : (0 : Int) ≤ (k : Int) := by omega
                        obtain ⟨rk, hrk⟩ : ∃ x, rl[k]? = some x := ⟨_, List.getElem?_eq_getElem (by rw [HLEN.out]; omega)⟩
                        have hgk := getD_get hrk
                        have hr16 : rk < 16 := by rw [← hgk]; exact HFO.out.1.ok.get k
                        have hv16 := HV16.out
                        have c2 := HK.blk_cell HBX.out 2
                        have c3 : q8.cell? ⟨g9, k, none⟩ = some (.int .i64 (rk : Int)) := by have := (isR_own HROW.out) k rk hrk; rwa [Nat.zero_add] at this
                        have c4 : q8.cell? ⟨g9, 0 + k, none⟩ = some (.int .i64 (rk : Int)) := by rw [Nat.zero_add]; exact c3
                        obtain ⟨qa, hqa⟩ : ∃ qa, qa = vi >>> k := ⟨_, rfl⟩
                        obtain ⟨qb, hqb⟩ : ∃ qb, qb = vf >>> k := ⟨_, rfl⟩
                        have sh1 : (vi : Int) / 2 ^ k = (qa : Int) := by rw [hqa]; exact quo_nat vi k
                        have sh2 : (vf : Int) / 2 ^ k = (qb : Int) := by rw [hqb]; exact quo_nat vf k
                        have hmin : min k 64 = k := by omega
                        obtain ⟨xa, hxa⟩ : ∃ x, x = rk &&& va := ⟨_, rfl⟩
                        obtain ⟨xb, hxb⟩ : ∃ x, x = rk &&& vb := ⟨_, rfl⟩
                        obtain ⟨xr, hxr⟩ : ∃ x, x = andn xa vb := ⟨_, rfl⟩
                        have hxa16 : xa < 16 := by rw [hxa]; exact Nat.lt_of_le_of_lt Nat.and_le_left hr16
                        have e1 : bits .and .i64 (rk : Int) (va : Int) = (xa : Int) := by rw [hxa]; exact bits_and rk va (by omega) (by omega)
                        have e2 : bits .and .i64 (rk : Int) (vb : Int) = (xb : Int) := by rw [hxb]; exact bits_and rk vb (by omega) (by omega)
                        have e3 : bits .andNot .i64 (xa : Int) (vb : Int) = (xr : Int) := by rw [hxr]; exact bits_andn xa vb (by omega) (by omega)
                        have hp3 := HP3.out k (by rw [HLEN.out]; omega)
                        rw [hgk, ← hxa, ← hxr] at hp3
                        have hp4 := HP4.out k (by rw [HLEN.out]; omega)
                        rw [hgk, ← hxa, ← hxb] at hp4
                        have HA : Hid ((bits .and .i64 (qa : Int) 1 = 0 ∧ ((xr : Int) == 0) = false ∧ ¬ (xr : Int) = 0 ∧ ¬ xr = 0) ∨ (bits .and .i64 (qa : Int) 1 = 1 ∧ xr = 0)) := Lib.hid (by
                          rw [← sh1]
                          rcases e : vi.testBit k with _ | _
                          · have hz : ¬ xr = 0 := fun h => by have := hp3.2 h; rw [e] at this; cases this
                            exact .inl ⟨bit0 (by omega) e, by simp; omega, by omega, hz⟩
                          · exact .inr ⟨bit1 (by omega) e, hp3.1 e⟩)
                        have HB : Hid ((bits .and .i64 (qb : Int) 1 = 0 ∧ ((xa : Int) == (xb : Int)) = false ∧ ¬ (xa : Int) = (xb : Int) ∧ ¬ xa = xb) ∨ (bits .and .i64 (qb : Int) 1 = 1 ∧ xa = xb)) := Lib.hid (by
                          rw [← sh2]
                          rcases e : vf.testBit k with _ | _
                          · have hz : ¬ xa = xb := fun h => by have := hp4.2 h; rw [e] at this; cases this
                            exact .inl ⟨bit0 (by omega) e, by simp; omega, by omega, hz⟩
                          · exact .inr ⟨bit1 (by omega) e, hp4.1 e⟩)
                        clear hp3 hp4 hxa hxb hxr hxa16 hqa hqb hgk hrk hr16 hv16
                        go_upto_region 17 with (fail)
                        go_cut [154] from 128 to 153 (fun v wx => v = .bool false ∧ q8 = wx)
                        case first =>
                          rcases HA.out with ⟨a1, a2, a3, a4⟩ | ⟨a1, a2⟩
                          · clear HA
                            rcases HB.out with ⟨b1, b2, b3, b4⟩ | ⟨b1, b2⟩
                            · clear HB
                              go_wp2_with (fail)
                              go_meet
                              exact ⟨rfl, rfl⟩
                            · clear HB
                              subst b2
                              go_wp2_with (fail)
                              go_meet
                              exact ⟨rfl, rfl⟩
                          · clear HA
                            rw [a2, show ((0 : Nat) : Int) = 0 from rfl] at e3
                            clear a2
                            rcases HB.out with ⟨b1, b2, b3, b4⟩ | ⟨b1, b2⟩
                            · clear HB
                              go_wp2_with (fail)
                              go_meet
                              exact ⟨rfl, rfl⟩
                            · clear HB
                              subst b2
                              go_wp2_with (fail)
                              go_meet
                              exact ⟨rfl, rfl⟩
                        case rest =>
                          obtain ⟨rfl, rfl⟩ := hcut
                          clear e1 e2 e3 sh1 sh2 HA HB hmin c2 c3 c4
                          go_wp2_with (fail)
                          go_roundw
                          case rel => exact ⟨k + 1, by omega, by go_num, by first | trivial | rfl⟩
                          case measure => simp [intOf]; omega
                      · obtain rfl : n = k := by omega
                        clear hk
                        have c4 := HK.blk_cell HBX.out 4
                        go_wp2_with (fail)
                        go_loopw [158] (fun i wr => ∃ j : Nat, j ≤ 3 ∧ i = .int .i64 j ∧ HK.Frm (fun b => b = fg9) q8 wr ∧ FcB fg9 (fun z => if z < j then low ([u4, u5, u6].getD z 0) else [u4, u5, u6].getD z 0) wr) (fun i _ => 3 - (intOf i).toNat)
                        case atStart => exact ⟨0, by omega, rfl, HK.Frm.refl _ _, HFC.out.ext fun z _ => by rw [if_neg (by omega)]⟩
                        case round =>
                          obtain ⟨j, hj, rfl, hfr, hfc⟩ := hrel
                          have HFR2 := Lib.hid hfr
                          have HFC2 := Lib.hid hfc
                          have hbx2 : wr.heap[B9]? = some _ := hfr.heap HBX.out (by have := HNE.out; omega)
                          by_cases hj3 : (j : Int) < 3
                          · have b0 : (0 : Int) ≤ (j : Int) := by omega
                            obtain ⟨uj, huj⟩ : ∃ u, u = [u4, u5, u6].getD j 0 := ⟨_, rfl⟩
                            have hu32 : uj < 4294967296 := by
                              have := HU16.out
                              rcases (by omega : j = 0 ∨ j = 1 ∨ j = 2) with rfl | rfl | rfl <;> (simp at huj; omega)
                            obtain ⟨arr, harr, hcells⟩ := hfc
                            obtain ⟨d0, d1, d2⟩ := hcells j (by omega)
                            replace d2 : arr[j * 3 + 2]? = some (.int .i64 (uj : Int)) := by rw [d2]; simp only [Nat.lt_irrefl, if_false]; rw [← huj]
                            have d2r := d2
                            rw [← HK.blk_cell harr] at d0 d1 d2
                            obtain ⟨nmj, hnmj⟩ : ∃ x, x = pqr j := ⟨_, rfl⟩
                            rw [← hnmj] at d0
                            have hA := HK.blk_alloc harr (.cells #[.string nmj, .int .i64 0, .int .i64 (uj : Int)] 46)
                            have hB9 := HK.blk_alloc hbx2 (.cells #[.string nmj, .int .i64 0, .int .i64 (uj : Int)] 46)
                            have cf := fun i => HK.blk_frozen hA i
                            have c4 := HK.blk_cell hB9 4
                            have d2a := (HK.blk_cell hA (j * 3 + 2)).trans d2r
                            clear d2r
                            have HUJ := Lib.hid huj
                            clear harr hcells hbx2 hA hB9 hnmj c1 huj
                            rcases eb : uj.testBit 0 with _ | _
                            · have e1 : bits .and .i64 (uj : Int) 1 = 0 := by have := bit0 (m := uj) (k := 0) hu32 eb; simpa using this
                              clear hu32
                              go_wp2_with (fail)
                              go_roundw
                              case rel =>
                                refine ⟨j + 1, by omega, by go_num, (HFR2.out.alloc _).setCell (.inl rfl) _, ((HFC2.out.alloc _).set (k := j) (by omega) 0).ext fun z hz => ?_⟩
                                by_cases e : z = j
                                · subst e
                                  rw [if_pos rfl, if_pos (by omega), ← HUJ.out, low_no eb]
                                · rw [if_neg e]
                                  by_cases e2 : z < j
                                  · rw [if_pos e2, if_pos (by omega)]
                                  · rw [if_neg e2, if_neg (by omega)]
                              case measure => simp [intOf]; omega
                            · have e1 : bits .and .i64 (uj : Int) 1 = 1 := by have := bit1 (m := uj) (k := 0) hu32 eb; simpa using this
                              clear hu32
                              go_wp2_with (fail)
                              go_roundw
                              case rel =>
                                refine ⟨j + 1, by omega, by go_num, HFR2.out.alloc _, (HFC2.out.alloc _).ext fun z hz => ?_⟩
                                by_cases e : z = j
                                · subst e
                                  rw [if_neg (by omega), if_pos (by omega), ← HUJ.out, low_yes eb]
                                · by_cases e2 : z < j
                                  · rw [if_pos e2, if_pos (by omega)]
                                  · rw [if_neg e2, if_neg (by omega)]
                              case measure => simp [intOf]; omega
                          · obtain rfl : j = 3 := by omega
                            obtain ⟨ne1, ne2, ne3, ne4, ne5⟩ := HNE.out
                            have hne : ∀ g, Value.ownBlock (.slice (some ⟨g9, 0, none⟩) n c9) = some g → ¬ g = fg9 := by
                              intro g e
                              simp [Value.ownBlock] at e
                              omega
                            have hrow2 := hfr.owns HROW.out hne
                            have hm2 : MB wr B9 (mdl 3 n rl [low u4, low u5, low u6]) := mb_of hbx2 hrow2 HLEN.out hfc rfl rfl rfl
                            have hs1 := HS1.out.turn (W' := wr) hfr.size fun k hk1 hk2 => hfr.block k hk2 (by omega)
                            have hbw : Below w.heap.size w wr := HBL.out.trans (hfr.below (Nat.le_trans (by omega) HBL.out.size) (fun k hk => by omega))
                            have hrw2 : IsRows wr := HRW0.out.below hbw
                            clear HRW HBL HF10 HF11 HM9 HSI HS1 HS2 HBX HROW HFC HNE HFR2 HFC2 HP1 HP2 HP3 HP4 HOW
                            have HBL := Lib.hid hbw
                            have HRW := Lib.hid hrw2
                            have HF10 := Lib.hid hs1.box
                            have HM9 := Lib.hid hm2
                            clear hne hbw hrw2 hs1 hm2 hrow2 hbx2 hfr hfc ne1 ne2 ne3 ne4 ne5 c1
                            obtain ⟨q9, hq9⟩ : ∃ q : World, q = wr := ⟨_, rfl⟩
                            subst hq9
                            go_upto_region 25 with (fail)
                            go_cut [28, 29] from 173 to 183 (fun v28 v29 wx => v28 = .bool true ∧ v29 = .int .i64 0 ∧ Below q9.heap.size q9 wx)
                            case first =>
                              refine Go.RE.wp_region_eachg [174, 175, 176, 177, 178, 179, 180, 181, 173, 182, 183, 28, 29] (fun L x W => (Below q9.heap.size q9 W) ∧ (L 0 = true → IsMv W (x 174) (mdl 3 n rl [low u4, low u5, low u6])) ∧ (L 1 = true → IsFv W (x 175) (ff)) ∧ (L 2 = true → IsFv W (x 176) (ff)) ∧ (L 3 = true → IsFsV W (x 177) [ff]) ∧ (L 4 = true → IsFv W (x 178) (.mk 3 ⟨#[]⟩ [] [ff])) ∧ (L 5 = true → IsFsV W (x 179) [ff, .mk 3 ⟨#[]⟩ [] [ff]]) ∧ (L 6 = true → IsFv W (x 180) (.mk 5 ⟨#[]⟩ [] [ff, .mk 3 ⟨#[]⟩ [] [ff]])) ∧ (L 7 = true → x 181 = .tuple #[.bool true, .int .i64 0]) ∧ (L 8 = true → x 173 = .tuple #[.bool true, .int .i64 0]) ∧ (L 9 = true → x 182 = .bool true) ∧ (L 10 = true → x 183 = .int .i64 0) ∧ (L 11 = true → x 28 = .bool true) ∧ (L 12 = true → x 29 = .int .i64 0)) (by kernel_rfl) (by kernel_rfl) (by kernel_rfl) ?_ ((Go.RE.Each.cons ?_ (Go.RE.Each.cons ?_ (Go.RE.Each.cons ?_ (Go.RE.Each.cons ?_ (Go.RE.Each.cons ?_ (Go.RE.Each.cons ?_ (Go.RE.Each.cons ?_ (Go.RE.Each.cons ?_ (Go.RE.Each.cons ?_ (Go.RE.Each.cons ?_ (Go.RE.Each.cons ?_ (Go.RE.Each.cons ?_ (Go.RE.Each.cons ?_ Go.RE.Each.nil)))))))))))))) ?_
                              · exact fun x => ⟨bl_dr (Below.refl _ _), fun h => (by cases h), fun h => (by cases h), fun h => (by cases h), fun h => (by cases h), fun h => (by cases h), fun h => (by cases h), fun h => (by cases h), fun h => (by cases h), fun h => (by cases h), fun h => (by cases h), fun h => (by cases h), fun h => (by cases h), fun h => (by cases h)⟩
                              · intro L x a wR K hL hd hf hx hΦ hK
                                obtain ⟨hI, f0, f1, f2, f3, f4, f5, f6, f7, f8, f9, f10, f11, f12⟩ := hΦ
                                refine ⟨fun _ => ?_, fun h => absurd h (by rw [Go.RE.wanted_none rfl]; decide)⟩
                                have e9 : a.tmps[9]? = some (.pointer (some ⟨B9, 0, none⟩)) := hf 9 (of_decide_eq_true (by kernel_rfl))
                                clear hf hx hd
                                obtain ⟨mk, mz, lp, r0, r1, r2, t0, t1, t2, u0, u1, u2, b0, b1, b2, hb, h2, h3, h5, h4⟩ := (HM9.out.below hI)
                                have cc := HK.blk_cell hb
                                have c0 := cc 0
                                have c1 := cc 1
                                have c2 := cc 2
                                have c3 := cc 3
                                have c4 := cc 4
                                have c5 := cc 5
                                have c6 := cc 6
                                clear cc
                                go_simp
                                refine hK _ _ ?_
                                exact ⟨hI, fun _ => ⟨mk, mz, lp, r0, r1, r2, t0, t1, t2, u0, u1, u2, b0, b1, b2, rfl, h2, h3, h5, h4⟩, fun h => f1 h, fun h => f2 h, fun h => f3 h, fun h => f4 h, fun h => f5 h, fun h => f6 h, fun h => f7 h, fun h => f8 h, fun h => f9 h, fun h => f10 h, fun h => f11 h, fun h => f12 h⟩
                              · intro L x a wR K hL hd hf hx hΦ hK
                                obtain ⟨hI, f0, f1, f2, f3, f4, f5, f6, f7, f8, f9, f10, f11, f12⟩ := hΦ
                                refine ⟨fun _ => ?_, fun h => absurd h (by rw [Go.RE.wanted_none rfl]; decide)⟩
                                have e10 : a.tmps[10]? = some (.pointer (some ⟨B10, 0, none⟩)) := hf 10 (of_decide_eq_true (by kernel_rfl))
                                clear hf hx hd
                                obtain ⟨o, nm, a0, a1, a2, s0, s1, s2, hb, h2, h3, h4⟩ := (HF10.out.below hI)
                                have cc := HK.blk_cell hb
                                have c0 := cc 0
                                have c1 := cc 1
                                have c2 := cc 2
                                have c3 := cc 3
                                clear cc
                                go_simp
                                refine hK _ _ ?_
                                exact ⟨hI, fun h => f0 h, fun _ => ⟨o, nm, a0, a1, a2, s0, s1, s2, rfl, h2, h3, h4⟩, fun h => f2 h, fun h => f3 h, fun h => f4 h, fun h => f5 h, fun h => f6 h, fun h => f7 h, fun h => f8 h, fun h => f9 h, fun h => f10 h, fun h => f11 h, fun h => f12 h⟩
                              · intro L x a wR K hL hd hf hx hΦ hK
                                obtain ⟨hI, f0, f1, f2, f3, f4, f5, f6, f7, f8, f9, f10, f11, f12⟩ := hΦ
                                refine ⟨fun _ => ?_, fun h => absurd h (by rw [Go.RE.wanted_none rfl]; decide)⟩
                                have e10 : a.tmps[10]? = some (.pointer (some ⟨B10, 0, none⟩)) := hf 10 (of_decide_eq_true (by kernel_rfl))
                                clear hf hx hd
                                obtain ⟨o, nm, a0, a1, a2, s0, s1, s2, hb, h2, h3, h4⟩ := (HF10.out.below hI)
                                have cc := HK.blk_cell hb
                                have c0 := cc 0
                                have c1 := cc 1
                                have c2 := cc 2
                                have c3 := cc 3
                                clear cc
                                go_simp
                                refine hK _ _ ?_
                                exact ⟨hI, fun h => f0 h, fun h => f1 h, fun _ => ⟨o, nm, a0, a1, a2, s0, s1, s2, rfl, h2, h3, h4⟩, fun h => f3 h, fun h => f4 h, fun h => f5 h, fun h => f6 h, fun h => f7 h, fun h => f8 h, fun h => f9 h, fun h => f10 h, fun h => f11 h, fun h => f12 h⟩
                              · intro L x a wR K hL hd hf hx hΦ hK
                                obtain ⟨hI, f0, f1, f2, f3, f4, f5, f6, f7, f8, f9, f10, f11, f12⟩ := hΦ
                                refine ⟨fun _ => ?_, fun h => absurd h (by rw [Go.RE.wanted_none rfl]; decide)⟩
                                have d2 := f2 (hd 2 (by kernel_rfl))
                                have e176 : a.tmps[176]? = some (x 176) := hx 2 _ 176 rfl rfl (hd 2 (by kernel_rfl))
                                clear hf hx hd
                                obtain ⟨o, nm, a0, a1, a2, s0, s1, s2, hv, h2, h3, h4⟩ := d2
                                rw [hv] at e176
                                go_simp
                                refine hK _ _ ?_
                                exact ⟨below_tr hI (below_alloc _ _), fun h => (f0 h).below (below_alloc wR _), fun h => (f1 h).below (below_alloc wR _), fun h => (f2 h).below (below_alloc wR _), fun _ => build1 h2 h3 h4, fun h => (f4 h).below (below_alloc wR _), fun h => (f5 h).below (below_alloc wR _), fun h => (f6 h).below (below_alloc wR _), fun h => f7 h, fun h => f8 h, fun h => f9 h, fun h => f10 h, fun h => f11 h, fun h => f12 h⟩
                              · intro L x a wR K hL hd hf hx hΦ hK
                                obtain ⟨hI, f0, f1, f2, f3, f4, f5, f6, f7, f8, f9, f10, f11, f12⟩ := hΦ
                                refine ⟨fun _ => ?_, fun h => absurd h (by rw [Go.RE.wanted_none rfl]; decide)⟩
                                have d3 := f3 (hd 3 (by kernel_rfl))
                                have e177 : a.tmps[177]? = some (x 177) := hx 3 _ 177 rfl rfl (hd 3 (by kernel_rfl))
                                clear hf hx hd
                                obtain ⟨s0, s1, s2, hv, h2⟩ := d3
                                rw [hv] at e177
                                have HC : Hid (Calls Tryd.prog 15 #[.int .u8 3, .slice s0 s1 s2] wR fun e w' => e = .returned (.agg #[.int .u8 3, .string ⟨#[]⟩, .slice none 0 0, .slice s0 s1 s2]) ∧ IsFv w' (.agg #[.int .u8 3, .string ⟨#[]⟩, .slice none 0 0, .slice s0 s1 s2]) (.mk 3 ⟨#[]⟩ [] [ff]) ∧ Below wR.heap.size wR w') := Lib.hid (joinv (op := 3) (by omega) ⟨s0, s1, s2, rfl, h2⟩)
                                go_simp
                                go_at_call 15
                                with_reducible refine HC.out.mono ?_
                                rintro e w' ⟨rfl, hfv, hB8⟩
                                simp only
                                refine hK _ _ ?_
                                exact ⟨below_tr hI hB8, fun h => (f0 h).below hB8, fun h => (f1 h).below hB8, fun h => (f2 h).below hB8, fun h => (f3 h).below hB8, fun _ => hfv, fun h => (f5 h).below hB8, fun h => (f6 h).below hB8, fun h => f7 h, fun h => f8 h, fun h => f9 h, fun h => f10 h, fun h => f11 h, fun h => f12 h⟩
                              · intro L x a wR K hL hd hf hx hΦ hK
                                obtain ⟨hI, f0, f1, f2, f3, f4, f5, f6, f7, f8, f9, f10, f11, f12⟩ := hΦ
                                refine ⟨fun _ => ?_, fun h => absurd h (by rw [Go.RE.wanted_none rfl]; decide)⟩
                                have d1 := f1 (hd 1 (by kernel_rfl))
                                have e175 : a.tmps[175]? = some (x 175) := hx 1 _ 175 rfl rfl (hd 1 (by kernel_rfl))
                                have d4 := f4 (hd 4 (by kernel_rfl))
                                have e178 : a.tmps[178]? = some (x 178) := hx 4 _ 178 rfl rfl (hd 4 (by kernel_rfl))
                                clear hf hx hd
                                obtain ⟨o, nm, a0, a1, a2, s0, s1, s2, hv, h2, h3, h4⟩ := d1
                                rw [hv] at e175
                                obtain ⟨o', nm', a0', a1', a2', s0', s1', s2', hv', h2', h3', h4'⟩ := d4
                                rw [hv'] at e178
                                go_simp
                                refine hK _ _ ?_
                                exact ⟨below_tr hI (below_alloc _ _), fun h => (f0 h).below (below_alloc wR _), fun h => (f1 h).below (below_alloc wR _), fun h => (f2 h).below (below_alloc wR _), fun h => (f3 h).below (below_alloc wR _), fun h => (f4 h).below (below_alloc wR _), fun _ => build2 h2 h3 h4 h2' h3' h4', fun h => (f6 h).below (below_alloc wR _), fun h => f7 h, fun h => f8 h, fun h => f9 h, fun h => f10 h, fun h => f11 h, fun h => f12 h⟩
                              · intro L x a wR K hL hd hf hx hΦ hK
                                obtain ⟨hI, f0, f1, f2, f3, f4, f5, f6, f7, f8, f9, f10, f11, f12⟩ := hΦ
                                refine ⟨fun _ => ?_, fun h => absurd h (by rw [Go.RE.wanted_none rfl]; decide)⟩
                                have d5 := f5 (hd 5 (by kernel_rfl))
                                have e179 : a.tmps[179]? = some (x 179) := hx 5 _ 179 rfl rfl (hd 5 (by kernel_rfl))
                                clear hf hx hd
                                obtain ⟨s0, s1, s2, hv, h2⟩ := d5
                                rw [hv] at e179
                                have HC : Hid (Calls Tryd.prog 15 #[.int .u8 5, .slice s0 s1 s2] wR fun e w' => e = .returned (.agg #[.int .u8 5, .string ⟨#[]⟩, .slice none 0 0, .slice s0 s1 s2]) ∧ IsFv w' (.agg #[.int .u8 5, .string ⟨#[]⟩, .slice none 0 0, .slice s0 s1 s2]) (.mk 5 ⟨#[]⟩ [] [ff, .mk 3 ⟨#[]⟩ [] [ff]]) ∧ Below wR.heap.size wR w') := Lib.hid (joinv (op := 5) (by omega) ⟨s0, s1, s2, rfl, h2⟩)
                                go_simp
                                go_at_call 15
                                with_reducible refine HC.out.mono ?_
                                rintro e w' ⟨rfl, hfv, hB8⟩
                                simp only
                                refine hK _ _ ?_
                                exact ⟨below_tr hI hB8, fun h => (f0 h).below hB8, fun h => (f1 h).below hB8, fun h => (f2 h).below hB8, fun h => (f3 h).below hB8, fun h => (f4 h).below hB8, fun h => (f5 h).below hB8, fun _ => hfv, fun h => f7 h, fun h => f8 h, fun h => f9 h, fun h => f10 h, fun h => f11 h, fun h => f12 h⟩
                              · intro L x a wR K hL hd hf hx hΦ hK
                                obtain ⟨hI, f0, f1, f2, f3, f4, f5, f6, f7, f8, f9, f10, f11, f12⟩ := hΦ
                                refine ⟨fun _ => ?_, fun h => absurd h (by rw [Go.RE.wanted_none rfl]; decide)⟩
                                have d0 := f0 (hd 0 (by kernel_rfl))
                                have e174 : a.tmps[174]? = some (x 174) := hx 0 _ 174 rfl rfl (hd 0 (by kernel_rfl))
                                have d6 := f6 (hd 6 (by kernel_rfl))
                                have e180 : a.tmps[180]? = some (x 180) := hx 6 _ 180 rfl rfl (hd 6 (by kernel_rfl))
                                clear hf hx hd
                                have hc := holds_valv d0 d6 (HRW.out.below hI) HA7.out.1 HMO2.out HA7.out.2.1 HA7.out.2.2.1 HA7.out.2.2.2
                                obtain ⟨mk, mz, lp, r0, r1, r2, t0, t1, t2, u0, u1, u2, b0, b1, b2, hv, _, _, _, _⟩ := d0
                                obtain ⟨o', nm', a0', a1', a2', s0', s1', s2', hv', _, _, _⟩ := d6
                                rw [hv] at e174
                                rw [hv'] at e180
                                rw [hv, hv'] at hc
                                have HC : Hid (Calls Tryd.prog 17 _ _ fun e w' => e = .returned (.tuple #[.bool true, .int .i64 0]) ∧ _) := Lib.hid hc
                                clear hc
                                go_simp
                                go_at_call 17
                                with_reducible refine HC.out.mono ?_
                                rintro e w' ⟨rfl, hB8⟩
                                simp only
                                refine hK _ _ ?_
                                exact ⟨below_tr hI hB8, fun h => (f0 h).below hB8, fun h => (f1 h).below hB8, fun h => (f2 h).below hB8, fun h => (f3 h).below hB8, fun h => (f4 h).below hB8, fun h => (f5 h).below hB8, fun h => (f6 h).below hB8, fun _ => rfl, fun h => f8 h, fun h => f9 h, fun h => f10 h, fun h => f11 h, fun h => f12 h⟩
                              · intro L x a wR K hL hd hf hx hΦ hK
                                obtain ⟨hI, f0, f1, f2, f3, f4, f5, f6, f7, f8, f9, f10, f11, f12⟩ := hΦ
                                refine ⟨fun _ => ?_, fun h => absurd h (by rw [Go.RE.wanted_none rfl]; decide)⟩
                                have d7 := f7 (hd 7 (by kernel_rfl))
                                have e181 : a.tmps[181]? = some (x 181) := hx 7 _ 181 rfl rfl (hd 7 (by kernel_rfl))
                                rw [d7] at e181
                                clear hf hx hd
                                go_simp
                                refine hK _ _ ?_
                                exact ⟨hI, fun h => f0 h, fun h => f1 h, fun h => f2 h, fun h => f3 h, fun h => f4 h, fun h => f5 h, fun h => f6 h, fun h => f7 h, fun _ => rfl, fun h => f9 h, fun h => f10 h, fun h => f11 h, fun h => f12 h⟩
                              · intro L x a wR K hL hd hf hx hΦ hK
                                obtain ⟨hI, f0, f1, f2, f3, f4, f5, f6, f7, f8, f9, f10, f11, f12⟩ := hΦ
                                refine ⟨fun _ => ?_, fun h => absurd h (by rw [Go.RE.wanted_none rfl]; decide)⟩
                                have d8 := f8 (hd 8 (by kernel_rfl))
                                have e173 : a.tmps[173]? = some (x 173) := hx 8 _ 173 rfl rfl (hd 8 (by kernel_rfl))
                                rw [d8] at e173
                                clear hf hx hd
                                go_simp
                                refine hK _ _ ?_
                                exact ⟨hI, fun h => f0 h, fun h => f1 h, fun h => f2 h, fun h => f3 h, fun h => f4 h, fun h => f5 h, fun h => f6 h, fun h => f7 h, fun h => f8 h, fun _ => rfl, fun h => f10 h, fun h => f11 h, fun h => f12 h⟩
                              · intro L x a wR K hL hd hf hx hΦ hK
                                obtain ⟨hI, f0, f1, f2, f3, f4, f5, f6, f7, f8, f9, f10, f11, f12⟩ := hΦ
                                refine ⟨fun _ => ?_, fun h => absurd h (by rw [Go.RE.wanted_none rfl]; decide)⟩
                                have d8 := f8 (hd 8 (by kernel_rfl))
                                have e173 : a.tmps[173]? = some (x 173) := hx 8 _ 173 rfl rfl (hd 8 (by kernel_rfl))
                                rw [d8] at e173
                                clear hf hx hd
                                go_simp
                                refine hK _ _ ?_
                                exact ⟨hI, fun h => f0 h, fun h => f1 h, fun h => f2 h, fun h => f3 h, fun h => f4 h, fun h => f5 h, fun h => f6 h, fun h => f7 h, fun h => f8 h, fun h => f9 h, fun _ => rfl, fun h => f11 h, fun h => f12 h⟩
                              · intro L x a wR K hL hd hf hx hΦ hK
                                obtain ⟨hI, f0, f1, f2, f3, f4, f5, f6, f7, f8, f9, f10, f11, f12⟩ := hΦ
                                refine ⟨fun _ => ?_, fun h => absurd h (by rw [Go.RE.wanted_none rfl]; decide)⟩
                                have d9 := f9 (hd 9 (by kernel_rfl))
                                have e182 : a.tmps[182]? = some (x 182) := hx 9 _ 182 rfl rfl (hd 9 (by kernel_rfl))
                                rw [d9] at e182
                                clear hf hx hd
                                go_simp
                                refine hK _ _ ?_
                                exact ⟨hI, fun h => f0 h, fun h => f1 h, fun h => f2 h, fun h => f3 h, fun h => f4 h, fun h => f5 h, fun h => f6 h, fun h => f7 h, fun h => f8 h, fun h => f9 h, fun h => f10 h, fun _ => rfl, fun h => f12 h⟩
                              · intro L x a wR K hL hd hf hx hΦ hK
                                obtain ⟨hI, f0, f1, f2, f3, f4, f5, f6, f7, f8, f9, f10, f11, f12⟩ := hΦ
                                refine ⟨fun _ => ?_, fun h => absurd h (by rw [Go.RE.wanted_none rfl]; decide)⟩
                                have d10 := f10 (hd 10 (by kernel_rfl))
                                have e183 : a.tmps[183]? = some (x 183) := hx 10 _ 183 rfl rfl (hd 10 (by kernel_rfl))
                                rw [d10] at e183
                                clear hf hx hd
                                go_simp
                                refine hK _ _ ?_
                                exact ⟨hI, fun h => f0 h, fun h => f1 h, fun h => f2 h, fun h => f3 h, fun h => f4 h, fun h => f5 h, fun h => f6 h, fun h => f7 h, fun h => f8 h, fun h => f9 h, fun h => f10 h, fun h => f11 h, fun _ => rfl⟩
                              · rintro x W ⟨hI, f0, f1, f2, f3, f4, f5, f6, f7, f8, f9, f10, f11, f12⟩
                                simp only [Exit.then]
                                go_step
                                go_meet
                                exact ⟨f11 rfl, f12 rfl, hI⟩
                            case rest =>
                              obtain ⟨rfl, rfl, hB⟩ := hcut
                              replace HM9 := Lib.hid (HM9.out.below hB)
                              replace HF10 := Lib.hid (HF10.out.below hB)
                              replace HRW := Lib.hid (HRW.out.below hB)
                              replace HBL := Lib.hid (below_tr HBL.out hB)
                              obtain ⟨q10, hq10⟩ : ∃ q : World, q = wc := ⟨_, rfl⟩
                              subst hq10
                              clear hB
                              go_wp2_with (fail)
                              go_ret
                              exact ⟨rfl, HBL.out⟩
end Go.Proofs.YtflmllablfjfeaaDoor
