/- Frame: the walk of FrameModal (5). frmo.py prints this text. -/
import Derived.Test.YtflmllablfjfeaaDoorFsx
namespace Go.Proofs.YtflmllablfjfeaaDoor
open Go.RowKit Go.HK Go.FR
set_option linter.unusedVariables false
set_option linter.unusedSimpArgs false
set_option linter.unusedSectionVars false
theorem madeR_ok (n : Nat) (h1 : 1 ≤ n) (h4 : n ≤ 4) (F : Nat → Nat) : FrOk (madeR n F n) := ⟨by rw [madeR_len]; omega, fun w s h => by
  unfold madeR at h
  rw [List.getElem?_map] at h
  rw [madeR_len]
  obtain ⟨x, _, rfl⟩ := Option.map_eq_some_iff.1 h
  exact Nat.mod_lt _ (Nat.two_pow_pos n)⟩
theorem suitsK_modal (rel : List Nat) (k : Nat) (n : Nat) : suitsB false 0 rel k = true := by
  unfold suitsB
  rw [lackAll_zero]; rfl
theorem made_ok (n : Nat) (h1 : 1 ≤ n) (h4 : n ≤ 4) (F : Nat → Nat) (a b c : Nat) : (mdl 4 n (madeR n F n) [a % 2 ^ n, b % 2 ^ n, c % 2 ^ n]).ok = true := by
  refine mdl_ok (.inr rfl) (madeR_ok n h1 h4 F) (madeR_len n F n) h1 (suitsK_modal _ _ n) fun m hm => ⟨?_, fun h => by cases h⟩
  rw [madeR_len]
  rcases hm with rfl | rfl | rfl <;> exact Nat.mod_lt _ (Nat.two_pow_pos n)
set_option maxRecDepth 100000 in
set_option maxHeartbeats 16000000 in
theorem modal_walk (w : World) (s : Nat) (F : Nat → Nat) (x0 : Option Addr) (xn xc : Nat) (lx : List Nat) (y0 : Option Addr) (yn yc : Nat) (ly : List Nat) (hrw : IsRows w) (hs : s < 256) (hF : ∀ i, F i < 256) (hx : lx.length = xn) (hx2 : xn ≤ 9223372036854775807) (hbx : IsBy w x0 lx) (hy : ly.length = yn) (hy2 : yn ≤ 9223372036854775807) (hby : IsBy w y0 ly) :
    Calls Tryd.prog 5 #[.int .u8 (s : Int), .agg (sevenV F), .slice x0 xn xc, .slice y0 yn yc] w (RetW w true) := by
  obtain ⟨n, hn⟩ : ∃ n, n = 1 + s % 4 := ⟨_, rfl⟩
  have h1 : 1 ≤ n := by omega
  have h4 : n ≤ 4 := by omega
  obtain ⟨rl, hrl⟩ : ∃ rl, rl = madeR n F n := ⟨_, rfl⟩
  obtain ⟨u4, hu4⟩ : ∃ u, u = F 4 % 2 ^ n := ⟨_, rfl⟩
  obtain ⟨u5, hu5⟩ : ∃ u, u = F 5 % 2 ^ n := ⟨_, rfl⟩
  obtain ⟨u6, hu6⟩ : ∃ u, u = F 6 % 2 ^ n := ⟨_, rfl⟩
  obtain ⟨ff, hff⟩ : ∃ ff, ff = builtF true lx := ⟨_, rfl⟩
  obtain ⟨gg, hgg⟩ : ∃ gg, gg = builtF true ly := ⟨_, rfl⟩
  have hfo : FrOk rl := by rw [hrl]; exact madeR_ok n h1 h4 F
  have hlen : rl.length = n := by rw [hrl]; exact madeR_len n F n
  have hmok : (mdl 4 n rl [u4, u5, u6]).ok = true := by rw [hrl, hu4, hu5, hu6]; exact made_ok n h1 h4 F _ _ _
  have hlk : LookOk rl.length (look3 u4 u5 u6) := look3_all (R := fun m => m < 2 ^ rl.length) (by rw [hlen, hu4]; exact Nat.mod_lt _ (Nat.two_pow_pos n)) (by rw [hlen, hu5]; exact Nat.mod_lt _ (Nat.two_pow_pos n)) (by rw [hlen, hu6]; exact Nat.mod_lt _ (Nat.two_pow_pos n))
  have hpf := built_pln true lx
  rw [← hff] at hpf
  have hpg := built_pln true ly
  rw [← hgg] at hpg
  obtain ⟨va, hva⟩ : ∃ va, va = semF false rl (look3 u4 u5 u6) ff := ⟨_, rfl⟩
  obtain ⟨vx, hvx⟩ : ∃ vx, vx = semF false rl (look3 u4 u5 u6) (Op1 10 ff) := ⟨_, rfl⟩
  obtain ⟨vd, hvd⟩ : ∃ vd, vd = semF false rl (look3 u4 u5 u6) (Op1 11 ff) := ⟨_, rfl⟩
  obtain ⟨vn, hvn⟩ : ∃ vn, vn = semF false rl (look3 u4 u5 u6) (Op1 3 ff) := ⟨_, rfl⟩
  obtain ⟨ev, hev⟩ : ∃ ev, ev = 2 ^ rl.length - 1 := ⟨_, rfl⟩
  have p1 := modal_dual hfo hlk ff
  have p2 := modal_k hfo hlk ff gg
  have p3 := modal_not hfo hlk ff
  have p4 := modal_nec hfo hlk ff
  have p5 := fun k (hk : k < rl.length) => box_bit (force := false) hfo hlk ff hk
  have p6 := fun k (hk : k < rl.length) => dia_bit (force := false) hfo hlk ff hk
  have hv16 : va < 16 ∧ vx < 16 ∧ vd < 16 ∧ vn < 16 := ⟨by rw [hva]; exact semF_16 hfo hlk _, by rw [hvx]; exact semF_16 hfo hlk _, by rw [hvd]; exact semF_16 hfo hlk _, by rw [hvn]; exact semF_16 hfo hlk _⟩
  rw [← hvd] at p1
  rw [← hev] at p2
  rw [← hvn, ← hva, ← hev] at p3
  rw [← hva, ← hvx, ← hev] at p4
  rw [← hva, ← hvx] at p5
  rw [← hva, ← hvd] at p6
  have k3 := pln_one (modal := true) (op := 3) (.inl rfl) hpf.1
  have k10 := pln_one (modal := true) (op := 10) (.inr ⟨rfl, .inl rfl⟩) hpf.1
  have k11 := pln_one (modal := true) (op := 11) (.inr ⟨rfl, .inr rfl⟩) hpf.1
  have g10 := pln_one (modal := true) (op := 10) (.inr ⟨rfl, .inl rfl⟩) hpg.1
  have kd := pln_one (modal := true) (op := 3) (.inl rfl) (pln_one (modal := true) (op := 10) (.inr ⟨rfl, .inl rfl⟩) k3)
  have kk := pln_two (modal := true) (op := 6) (by omega) (pln_one (modal := true) (op := 10) (.inr ⟨rfl, .inl rfl⟩) (pln_two (modal := true) (op := 6) (by omega) hpf.1 hpg.1)) (pln_two (modal := true) (op := 6) (by omega) k10 g10)
  have HA1 : Hid (AtIs (mdl 4 n rl [u4, u5, u6]) ff va) := Lib.hid (pln_at (modal := true) (fun _ => rfl) hpf.1 (by omega) (by omega) hva.symm)
  have HA2 : Hid (AtIs (mdl 4 n rl [u4, u5, u6]) (.mk 10 ⟨#[]⟩ [] [ff]) vx) := Lib.hid (pln_at (modal := true) (f := Op1 10 ff) (fun _ => rfl) k10 (by rw [depth_one]; omega) (by rw [nodes_one]; omega) hvx.symm)
  have HA3 : Hid (AtIs (mdl 4 n rl [u4, u5, u6]) (.mk 11 ⟨#[]⟩ [] [ff]) vd) := Lib.hid (pln_at (modal := true) (f := Op1 11 ff) (fun _ => rfl) k11 (by rw [depth_one]; omega) (by rw [nodes_one]; omega) hvd.symm)
  have HA4 : Hid (AtIs (mdl 4 n rl [u4, u5, u6]) (.mk 3 ⟨#[]⟩ [] [.mk 10 ⟨#[]⟩ [] [.mk 3 ⟨#[]⟩ [] [ff]]]) vd) := Lib.hid (pln_at (modal := true) (f := Op1 3 (Op1 10 (Op1 3 ff))) (fun _ => rfl) kd (by rw [depth_one, depth_one, depth_one]; omega) (by rw [nodes_one, nodes_one, nodes_one]; omega) p1)
  have HA5 : Hid (AtIs (mdl 4 n rl [u4, u5, u6]) (.mk 6 ⟨#[]⟩ [] [.mk 10 ⟨#[]⟩ [] [.mk 6 ⟨#[]⟩ [] [ff, gg]], .mk 6 ⟨#[]⟩ [] [.mk 10 ⟨#[]⟩ [] [ff], .mk 10 ⟨#[]⟩ [] [gg]]]) ev) := Lib.hid (pln_at (modal := true) (f := Op2 6 (Op1 10 (Op2 6 ff gg)) (Op2 6 (Op1 10 ff) (Op1 10 gg))) (fun _ => rfl) kk (by rw [depth_two, depth_one, depth_two, depth_two, depth_one, depth_one]; omega) (by rw [nodes_two, nodes_one, nodes_two, nodes_two, nodes_one, nodes_one]; omega) p2)
  have HA6 : Hid (AtIs (mdl 4 n rl [u4, u5, u6]) (.mk 3 ⟨#[]⟩ [] [ff]) vn) := Lib.hid (pln_at (modal := true) (f := Op1 3 ff) (fun _ => rfl) k3 (by rw [depth_one]; omega) (by rw [nodes_one]; omega) hvn.symm)
  have HMO := Lib.hid hmok
  have HLEN := Lib.hid hlen
  have HP3 := Lib.hid p3
  have HP4 := Lib.hid p4
  have HP5 := Lib.hid p5
  have HP6 := Lib.hid p6
  have HV16 := Lib.hid hv16
  have HEV := Lib.hid hev
  have HFO := Lib.hid hfo
  have HN14 := Lib.hid (And.intro h1 h4)
  have HX : Hid (∀ W, Below w.heap.size w W → Calls Tryd.prog 14 #[.int .u8 4, .slice x0 xn xc] W (RetFn W ff)) := Lib.hid fun W h => by
    rw [hff]; exact built_fresh W 4 x0 xn xc lx (by omega) hx hx2 (hbx.below h)
  have HY : Hid (∀ W, Below w.heap.size w W → Calls Tryd.prog 14 #[.int .u8 4, .slice y0 yn yc] W (RetFn W gg)) := Lib.hid fun W h => by
    rw [hgg]; exact built_fresh W 4 y0 yn yc ly (by omega) hy hy2 (hby.below h)
  have HFD : Hid (∀ q, Calls Tryd.prog 19 #[.int .u8 (s : Int), .agg (sevenV F)] q (RetMo q 4 n rl [u4, u5, u6])) := Lib.hid fun q => by
    have := made_call q s F hs hF
    rw [← hn, ← hrl, ← hu4, ← hu5, ← hu6] at this
    exact this
  have hw1 : ∀ o, Below w.heap.size w (w.alloc o) := fun o => below_alloc w o
  have HAW : Hid (∀ o, Calls Tryd.prog 12 #[] (w.alloc o) (RetW (w.alloc o) true)) := Lib.hid fun o => awake_call (w.alloc o) (hrw.below (hw1 o))
  unfold RetW at HAW
  unfold RetFn at HX HY
  have HRW0 := Lib.hid hrw
  clear hn hrl hu4 hu5 hu6 hff hgg hfo hlen hmok hlk hpf hpg hva hvx hvd hvn hev p1 p2 p3 p4 p5 p6 hv16 k3 k10 k11 g10 kd kk hs hF hx hx2 hbx hy hy2 hby hw1 hrw h1 h4
  show Calls Tryd.prog 5 #[.int .u8 (s : Int), .agg #[.int .u8 (F 0 : Nat), .int .u8 (F 1 : Nat), .int .u8 (F 2 : Nat), .int .u8 (F 3 : Nat), .int .u8 (F 4 : Nat), .int .u8 (F 5 : Nat), .int .u8 (F 6 : Nat)], .slice x0 xn xc, .slice y0 yn yc] w _
  go_enter Tryd.func5, Tryd.ntmps5
  go_upto_region 3 with (go_at_call 12; ((with_reducible refine (HAW.out _).mono ?_); rintro e q0 ⟨rfl, hB⟩))
  have hsv := (hB.block w.heap.size (by simp)).trans (HK.blk_new w _)
  have HSV := Lib.hid hsv
  have HBL := Lib.hid (below_tr (below_alloc w _) hB)
  have HRW := Lib.hid (HRW0.out.below HBL.out)
  clear hsv hB
  go_cut [9] from 28 to 30 (fun v9 wx => ∃ B, v9 = .pointer (some ⟨B, 0, none⟩) ∧ MB wx B (mdl 4 n rl [u4, u5, u6]) ∧ Below q0.heap.size q0 wx)
  case first =>
    have cc := HK.blk_cell HSV.out
    have c0 := cc 0
    have c1 := cc 1
    have c2 := cc 2
    have c3 := cc 3
    have c4 := cc 4
    have c5 := cc 5
    have c6 := cc 6
    clear cc
    have HC : Hid (Calls Tryd.prog 19 #[.int .u8 (s : Int), .agg #[.int .u8 (F 0 : Nat), .int .u8 (F 1 : Nat), .int .u8 (F 2 : Nat), .int .u8 (F 3 : Nat), .int .u8 (F 4 : Nat), .int .u8 (F 5 : Nat), .int .u8 (F 6 : Nat)]] q0 _) := Lib.hid (HFD.out q0)
    unfold RetMo at HC
    go_wp2_with (go_at_call 19; ((with_reducible refine HC.out.mono ?_); rintro e w' ⟨g, c, fg, fc, rfl, hB, ho1, ho2⟩))
    go_meet
    have hmv := mv_own (kind := 4) (by omega) ho1 ho2 HLEN.out (by simp) (n : Int)
    exact ⟨_, rfl, box_m hmv, below_tr hB (below_alloc _ _)⟩
  case rest =>
    obtain ⟨B9, rfl, hnew, hB⟩ := hcut
    have HM9 := Lib.hid hnew
    replace HRW := Lib.hid (HRW.out.below hB)
    replace HBL := Lib.hid (below_tr HBL.out hB)
    obtain ⟨q1, hq1⟩ : ∃ q : World, q = wc := ⟨_, rfl⟩
    subst hq1
    clear hnew hB
    have HK4 : Hid (∀ W, Below q1.heap.size q1 W → W.cell? ⟨B9, 0, none⟩ = some (.int .u8 4)) := Lib.hid fun W h => by
      obtain ⟨mk, mz, lp, r0, r1, r2, t0, t1, t2, u0, u1, u2, b0, b1, b2, hb, h2, h3, h5, h4⟩ := (HM9.out.below h)
      have cc := HK.blk_cell hb
      have c0 := cc 0
      have c1 := cc 1
      have c2 := cc 2
      have c3 := cc 3
      have c4 := cc 4
      have c5 := cc 5
      have c6 := cc 6
      clear cc
      obtain rfl : mk = 4 := h2.symm
      exact c0
    have HB1 : Hid (∀ W, Below q1.heap.size q1 W → _) := Lib.hid fun W h => HX.out W (below_tr HBL.out h)
    have HB2 : Hid (∀ W, Below q1.heap.size q1 W → _) := Lib.hid fun W h => HY.out W (below_tr HBL.out h)
    go_upto_region 4 with (fail)
    go_cut [10, 11] from 31 to 38 (fun u v wx => ∃ B B', u = .pointer (some ⟨B, 0, none⟩) ∧ v = .pointer (some ⟨B', 0, none⟩) ∧ FmB wx B (ff) ∧ FmB wx B' (gg) ∧ Below q1.heap.size q1 wx)
    case first =>
      refine Go.RE.wp_region_eachg [31, 32, 33, 34, 35, 36, 37, 38, 10, 11] (fun L x W => (Below q1.heap.size q1 W) ∧ (L 0 = true → x 31 = .pointer (some ⟨B9, 0, none⟩)) ∧ (L 1 = true → x 32 = .int .u8 4) ∧ (L 2 = true → x 33 = .slice x0 xn xc) ∧ (L 3 = true → FvN q1.heap.size (L 8) (L 9) (x 10) (x 11) W (x 34) (ff)) ∧ (L 4 = true → x 35 = .pointer (some ⟨B9, 0, none⟩)) ∧ (L 5 = true → x 36 = .int .u8 4) ∧ (L 6 = true → x 37 = .slice y0 yn yc) ∧ (L 7 = true → FvN q1.heap.size (L 8) (L 9) (x 10) (x 11) W (x 38) (gg)) ∧ (L 8 = true → BxN q1.heap.size (L 9) (x 11) W (x 10)) ∧ (L 9 = true → BxN q1.heap.size (L 8) (x 10) W (x 11)) ∧ (L 10 = true → L 8 = true ∧ FmN (L 8) (L 9) (x 10) (x 11) q1.heap.size (L 9) (x 11) W (x 10) (ff)) ∧ (L 11 = true → L 9 = true ∧ FmN (L 8) (L 9) (x 10) (x 11) q1.heap.size (L 8) (x 10) W (x 11) (gg))) (by kernel_rfl) (by kernel_rfl) (by kernel_rfl) ?_ ((Go.RE.Each.cons ?_ (Go.RE.Each.cons ?_ (Go.RE.Each.cons ?_ (Go.RE.Each.cons ?_ (Go.RE.Each.cons ?_ (Go.RE.Each.cons ?_ (Go.RE.Each.cons ?_ (Go.RE.Each.cons ?_ (Go.RE.Each.cons ?_ (Go.RE.Each.cons ?_ (Go.RE.Each.cons ?_ (Go.RE.Each.cons ?_ Go.RE.Each.nil))))))))))))) ?_
      · exact fun x => ⟨bl_dr (Below.refl _ _), fun h => (by cases h), fun h => (by cases h), fun h => (by cases h), fun h => (by cases h), fun h => (by cases h), fun h => (by cases h), fun h => (by cases h), fun h => (by cases h), fun h => (by cases h), fun h => (by cases h), fun h => (by cases h), fun h => (by cases h)⟩
      · intro L x a wR K hL hd hf hx hΦ hK
        obtain ⟨hI, f0, f1, f2, f3, f4, f5, f6, f7, f8, f9, f10, f11⟩ := hΦ
        refine ⟨fun _ => ?_, fun h => absurd h (by rw [Go.RE.wanted_none rfl]; decide)⟩
        have e9 : a.tmps[9]? = some (.pointer (some ⟨B9, 0, none⟩)) := hf 9 (of_decide_eq_true (by kernel_rfl))
        clear hf hx hd
        go_simp
        refine hK _ _ ?_
        exact ⟨hI, fun _ => rfl, fun h => f1 h, fun h => f2 h, fun h => f3 h, fun h => f4 h, fun h => f5 h, fun h => f6 h, fun h => f7 h, fun h => f8 h, fun h => f9 h, fun h => f10 h, fun h => f11 h⟩
      · intro L x a wR K hL hd hf hx hΦ hK
        obtain ⟨hI, f0, f1, f2, f3, f4, f5, f6, f7, f8, f9, f10, f11⟩ := hΦ
        refine ⟨fun _ => ?_, fun h => absurd h (by rw [Go.RE.wanted_none rfl]; decide)⟩
        have d0 := f0 (hd 0 (by kernel_rfl))
        have e31 : a.tmps[31]? = some (x 31) := hx 0 _ 31 rfl rfl (hd 0 (by kernel_rfl))
        rw [d0] at e31
        have c := HK4.out _ hI
        clear hf hx hd
        go_simp
        refine hK _ _ ?_
        exact ⟨hI, fun h => f0 h, fun _ => rfl, fun h => f2 h, fun h => f3 h, fun h => f4 h, fun h => f5 h, fun h => f6 h, fun h => f7 h, fun h => f8 h, fun h => f9 h, fun h => f10 h, fun h => f11 h⟩
      · intro L x a wR K hL hd hf hx hΦ hK
        obtain ⟨hI, f0, f1, f2, f3, f4, f5, f6, f7, f8, f9, f10, f11⟩ := hΦ
        refine ⟨fun _ => ?_, fun h => absurd h (by rw [Go.RE.wanted_none rfl]; decide)⟩
        have e2 : a.tmps[2]? = some (.slice x0 xn xc) := hf 2 (of_decide_eq_true (by kernel_rfl))
        clear hf hx hd
        go_simp
        refine hK _ _ ?_
        exact ⟨hI, fun h => f0 h, fun h => f1 h, fun _ => rfl, fun h => f3 h, fun h => f4 h, fun h => f5 h, fun h => f6 h, fun h => f7 h, fun h => f8 h, fun h => f9 h, fun h => f10 h, fun h => f11 h⟩
      · intro L x a wR K hL hd hf hx hΦ hK
        obtain ⟨hI, f0, f1, f2, f3, f4, f5, f6, f7, f8, f9, f10, f11⟩ := hΦ
        refine ⟨fun _ => ?_, fun h => absurd h (by rw [Go.RE.wanted_none rfl]; decide)⟩
        have d1 := f1 (hd 1 (by kernel_rfl))
        have e32 : a.tmps[32]? = some (x 32) := hx 1 _ 32 rfl rfl (hd 1 (by kernel_rfl))
        rw [d1] at e32
        have d2 := f2 (hd 2 (by kernel_rfl))
        have e33 : a.tmps[33]? = some (x 33) := hx 2 _ 33 rfl rfl (hd 2 (by kernel_rfl))
        rw [d2] at e33
        have hy8 := f8
        have hy9 := f9
        clear hf hx hd
        go_simp
        go_at_call 14
        with_reducible refine (HB1.out _ hI).mono ?_
        rintro e w' ⟨⟨a0, a1, a2⟩, ⟨s0, s1, s2⟩, rfl, hB8, hfm⟩
        refine hK _ _ ?_
        exact ⟨below_tr hI hB8, fun h => f0 h, fun h => f1 h, fun h => f2 h, fun _ => FvN.of_call f8 (fun h => ⟨_, _, f9 h⟩) hB8.size hI.size hfm, fun h => f4 h, fun h => f5 h, fun h => f6 h, fun h => (f7 h).below hB8, fun h => (f8 h).below hB8, fun h => (f9 h).below hB8, fun h => ⟨(f10 h).1, (f10 h).2.below hB8⟩, fun h => ⟨(f11 h).1, (f11 h).2.below hB8⟩⟩
      · intro L x a wR K hL hd hf hx hΦ hK
        obtain ⟨hI, f0, f1, f2, f3, f4, f5, f6, f7, f8, f9, f10, f11⟩ := hΦ
        refine ⟨fun _ => ?_, fun h => absurd h (by rw [Go.RE.wanted_none rfl]; decide)⟩
        have e9 : a.tmps[9]? = some (.pointer (some ⟨B9, 0, none⟩)) := hf 9 (of_decide_eq_true (by kernel_rfl))
        clear hf hx hd
        go_simp
        refine hK _ _ ?_
        exact ⟨hI, fun h => f0 h, fun h => f1 h, fun h => f2 h, fun h => f3 h, fun _ => rfl, fun h => f5 h, fun h => f6 h, fun h => f7 h, fun h => f8 h, fun h => f9 h, fun h => f10 h, fun h => f11 h⟩
      · intro L x a wR K hL hd hf hx hΦ hK
        obtain ⟨hI, f0, f1, f2, f3, f4, f5, f6, f7, f8, f9, f10, f11⟩ := hΦ
        refine ⟨fun _ => ?_, fun h => absurd h (by rw [Go.RE.wanted_none rfl]; decide)⟩
        have d4 := f4 (hd 4 (by kernel_rfl))
        have e35 : a.tmps[35]? = some (x 35) := hx 4 _ 35 rfl rfl (hd 4 (by kernel_rfl))
        rw [d4] at e35
        have c := HK4.out _ hI
        clear hf hx hd
        go_simp
        refine hK _ _ ?_
        exact ⟨hI, fun h => f0 h, fun h => f1 h, fun h => f2 h, fun h => f3 h, fun h => f4 h, fun _ => rfl, fun h => f6 h, fun h => f7 h, fun h => f8 h, fun h => f9 h, fun h => f10 h, fun h => f11 h⟩
      · intro L x a wR K hL hd hf hx hΦ hK
        obtain ⟨hI, f0, f1, f2, f3, f4, f5, f6, f7, f8, f9, f10, f11⟩ := hΦ
        refine ⟨fun _ => ?_, fun h => absurd h (by rw [Go.RE.wanted_none rfl]; decide)⟩
        have e3 : a.tmps[3]? = some (.slice y0 yn yc) := hf 3 (of_decide_eq_true (by kernel_rfl))
        clear hf hx hd
        go_simp
        refine hK _ _ ?_
        exact ⟨hI, fun h => f0 h, fun h => f1 h, fun h => f2 h, fun h => f3 h, fun h => f4 h, fun h => f5 h, fun _ => rfl, fun h => f7 h, fun h => f8 h, fun h => f9 h, fun h => f10 h, fun h => f11 h⟩
      · intro L x a wR K hL hd hf hx hΦ hK
        obtain ⟨hI, f0, f1, f2, f3, f4, f5, f6, f7, f8, f9, f10, f11⟩ := hΦ
        refine ⟨fun _ => ?_, fun h => absurd h (by rw [Go.RE.wanted_none rfl]; decide)⟩
        have d5 := f5 (hd 5 (by kernel_rfl))
        have e36 : a.tmps[36]? = some (x 36) := hx 5 _ 36 rfl rfl (hd 5 (by kernel_rfl))
        rw [d5] at e36
        have d6 := f6 (hd 6 (by kernel_rfl))
        have e37 : a.tmps[37]? = some (x 37) := hx 6 _ 37 rfl rfl (hd 6 (by kernel_rfl))
        rw [d6] at e37
        have hy8 := f8
        have hy9 := f9
        clear hf hx hd
        go_simp
        go_at_call 14
        with_reducible refine (HB2.out _ hI).mono ?_
        rintro e w' ⟨⟨a0, a1, a2⟩, ⟨s0, s1, s2⟩, rfl, hB8, hfm⟩
        refine hK _ _ ?_
        exact ⟨below_tr hI hB8, fun h => f0 h, fun h => f1 h, fun h => f2 h, fun h => (f3 h).below hB8, fun h => f4 h, fun h => f5 h, fun h => f6 h, fun _ => FvN.of_call f8 (fun h => ⟨_, _, f9 h⟩) hB8.size hI.size hfm, fun h => (f8 h).below hB8, fun h => (f9 h).below hB8, fun h => ⟨(f10 h).1, (f10 h).2.below hB8⟩, fun h => ⟨(f11 h).1, (f11 h).2.below hB8⟩⟩
      · intro L x a wR K hL hd hf hx hΦ hK
        obtain ⟨hI, f0, f1, f2, f3, f4, f5, f6, f7, f8, f9, f10, f11⟩ := hΦ
        refine ⟨fun _ => ?_, fun h => absurd h (by rw [Go.RE.wanted_none rfl]; decide)⟩
        clear hf hx hd
        go_simp
        refine hK _ _ ?_
        exact ⟨below_tr hI (below_alloc _ _), fun h => f0 h, fun h => f1 h, fun h => f2 h, fun h => (f3 h).al1 _, fun h => f4 h, fun h => f5 h, fun h => f6 h, fun h => (f7 h).al1 _, fun _ => BxN.fresh hI.size (fun h => ⟨_, _, f9 h⟩), fun h => (f9 h).al _, fun h => by have hh := f10 h; simp [hL] at hh, fun h => ⟨(f11 h).1, (f11 h).2.al1 _⟩⟩
      · intro L x a wR K hL hd hf hx hΦ hK
        obtain ⟨hI, f0, f1, f2, f3, f4, f5, f6, f7, f8, f9, f10, f11⟩ := hΦ
        refine ⟨fun _ => ?_, fun h => absurd h (by rw [Go.RE.wanted_none rfl]; decide)⟩
        clear hf hx hd
        go_simp
        refine hK _ _ ?_
        exact ⟨below_tr hI (below_alloc _ _), fun h => f0 h, fun h => f1 h, fun h => f2 h, fun h => (f3 h).al2 _, fun h => f4 h, fun h => f5 h, fun h => f6 h, fun h => (f7 h).al2 _, fun h => (f8 h).al _, fun _ => BxN.fresh hI.size (fun h => ⟨_, _, f8 h⟩), fun h => ⟨(f10 h).1, (f10 h).2.al2 _⟩, fun h => by have hh := f11 h; simp [hL] at hh⟩
      · intro L x a wR K hL hd hf hx hΦ hK
        obtain ⟨hI, f0, f1, f2, f3, f4, f5, f6, f7, f8, f9, f10, f11⟩ := hΦ
        refine ⟨fun _ => ?_, fun h => absurd h (by rw [Go.RE.wanted_none rfl]; decide)⟩
        have d8 := f8 (hd 8 (by kernel_rfl))
        have e10 : a.tmps[10]? = some (x 10) := hx 8 _ 10 rfl rfl (hd 8 (by kernel_rfl))
        have d3 := f3 (hd 3 (by kernel_rfl))
        have e34 : a.tmps[34]? = some (x 34) := hx 3 _ 34 rfl rfl (hd 3 (by kernel_rfl))
        have r8 := hd 8 (by kernel_rfl)
        clear hf hx hd
        obtain ⟨B, k0, k1, k2, k3, hp, hbk, hm, hne⟩ := d8
        obtain ⟨o, nm, a0, a1, a2, s0, s1, s2, hv, ho, hn, hfm⟩ := d3
        rw [hp] at e10
        rw [hv] at e34
        have c := HK.blk_cell hbk
        have k0 := c 0
        have k1 := c 1
        have k2 := c 2
        have k3 := c 3
        clear c
        have cf := fun i => HK.blk_frozen hbk i
        simp only [ptr0] at e10
        go_simp
        refine hK undef _ ?_
        exact ⟨below4 hI hm _ _ _ _, fun h => f0 h, fun h => f1 h, fun h => f2 h, fun h => (f3 h).set (.inl ⟨r8, hp⟩) _ _ _ _, fun h => f4 h, fun h => f5 h, fun h => f6 h, fun h => (f7 h).set (.inl ⟨r8, hp⟩) _ _ _ _, fun h => (f8 h).own hp hbk _ _ _ _, fun h => (f9 h).set r8 hp _ _ _ _, fun _ => ⟨r8, ⟨B, o, nm, a0, a1, a2, s0, s1, s2, hp, set4 hbk _ _ _ _, hm, hne, ho, hn, nob_set (.inl ⟨r8, hp⟩) hfm _ _ _ _⟩⟩, fun h => ⟨(f11 h).1, (f11 h).2.set r8 hp (.inl ⟨r8, hp⟩) _ _ _ _⟩⟩
      · intro L x a wR K hL hd hf hx hΦ hK
        obtain ⟨hI, f0, f1, f2, f3, f4, f5, f6, f7, f8, f9, f10, f11⟩ := hΦ
        refine ⟨fun _ => ?_, fun h => absurd h (by rw [Go.RE.wanted_none rfl]; decide)⟩
        have d9 := f9 (hd 9 (by kernel_rfl))
        have e11 : a.tmps[11]? = some (x 11) := hx 9 _ 11 rfl rfl (hd 9 (by kernel_rfl))
        have d7 := f7 (hd 7 (by kernel_rfl))
        have e38 : a.tmps[38]? = some (x 38) := hx 7 _ 38 rfl rfl (hd 7 (by kernel_rfl))
        have r9 := hd 9 (by kernel_rfl)
        clear hf hx hd
        obtain ⟨B, k0, k1, k2, k3, hp, hbk, hm, hne⟩ := d9
        obtain ⟨o, nm, a0, a1, a2, s0, s1, s2, hv, ho, hn, hfm⟩ := d7
        rw [hp] at e11
        rw [hv] at e38
        have c := HK.blk_cell hbk
        have k0 := c 0
        have k1 := c 1
        have k2 := c 2
        have k3 := c 3
        clear c
        have cf := fun i => HK.blk_frozen hbk i
        simp only [ptr0] at e11
        go_simp
        refine hK undef _ ?_
        exact ⟨below4 hI hm _ _ _ _, fun h => f0 h, fun h => f1 h, fun h => f2 h, fun h => (f3 h).set (.inr ⟨r9, hp⟩) _ _ _ _, fun h => f4 h, fun h => f5 h, fun h => f6 h, fun h => (f7 h).set (.inr ⟨r9, hp⟩) _ _ _ _, fun h => (f8 h).set r9 hp _ _ _ _, fun h => (f9 h).own hp hbk _ _ _ _, fun h => ⟨(f10 h).1, (f10 h).2.set r9 hp (.inr ⟨r9, hp⟩) _ _ _ _⟩, fun _ => ⟨r9, ⟨B, o, nm, a0, a1, a2, s0, s1, s2, hp, set4 hbk _ _ _ _, hm, hne, ho, hn, nob_set (.inr ⟨r9, hp⟩) hfm _ _ _ _⟩⟩⟩
      · rintro x W ⟨hI, f0, f1, f2, f3, f4, f5, f6, f7, f8, f9, f10, f11⟩
        obtain ⟨E1, e1, b1⟩ := (f10 rfl).2.box
        obtain ⟨E2, e2, b2⟩ := (f11 rfl).2.box
        simp only [Exit.then]
        go_step
        go_meet
        exact ⟨E1, E2, e1, e2, b1, b2, hI⟩
    case rest =>
      obtain ⟨B10, B11, rfl, rfl, hn1, hn2, hB⟩ := hcut
      replace HM9 := Lib.hid (HM9.out.below hB)
      have HF10 := Lib.hid hn1
      have HF11 := Lib.hid hn2
      replace HRW := Lib.hid (HRW.out.below hB)
      replace HBL := Lib.hid (below_tr HBL.out hB)
      obtain ⟨q2, hq2⟩ : ∃ q : World, q = wc := ⟨_, rfl⟩
      subst hq2
      clear hn1 hn2 hB
      clear HB1 HB2 HK4
      go_upto_region 5 with (fail)
      go_cut [12] from 39 to 42 (fun v12 wx => v12 = .int .i64 (ev : Int) ∧ q2 = wx)
      case first =>
        obtain ⟨mk, mz, lp, r0, r1, r2, t0, t1, t2, u0, u1, u2, b0, b1, b2, hb, h2, h3, h5, h4⟩ := HM9.out
        have cc := HK.blk_cell hb
        have c0 := cc 0
        have c1 := cc 1
        have c2 := cc 2
        have c3 := cc 3
        have c4 := cc 4
        have c5 := cc 5
        have c6 := cc 6
        clear cc
        obtain rfl : mz = (n : Int) := h3.symm
        have h14 := HN14.out
        obtain ⟨z, hz⟩ : ∃ z, z = 1 <<< n := ⟨_, rfl⟩
        have f1 := shl_wrap (k := n) (by omega)
        rw [← hz] at f1
        have f2 := (IntWalk.i64_left _).symm.trans f1
        have hz2 : 2 ^ n = z := by rw [hz, Nat.one_shiftLeft]
        have hz3 := Nat.two_pow_pos n
        have e2 : (z : Int) - 1 = (ev : Int) := by have h := HEV.out; rw [HLEN.out] at h; omega
        have hzle := pow_le4 h14.2
        have e3 : IntKind.i64.wrap ((z : Int) - 1) = (ev : Int) := by rw [IntWalk.i64_in _ (by omega)]; exact e2
        have e4 : wrap64 ((z : Int) - 1) = (ev : Int) := (IntWalk.i64_left _).symm.trans e3
        have qn : (0 : Int) ≤ (n : Int) := by omega
        have hmin : min n 64 = n := by omega
        clear hz hz2 hz3 e2 hzle h14 hb h2 h3 h4 h5 c0 c2 c3 c4 c5 c6
        go_wp2_with (fail)
        go_meet
        exact ⟨rfl, rfl⟩
      case rest =>
        obtain ⟨rfl, rfl⟩ := hcut
        go_upto_region 6 with (fail)
        go_cut [13, 14] from 43 to 48 (fun v13 v14 wx => v13 = .int .i64 (va : Int) ∧ v14 = .int .i64 0 ∧ Below q2.heap.size q2 wx)
        case first =>
          obtain ⟨o, nm, a0, a1, a2, s0, s1, s2, hb, h2, h3, h4⟩ := HF10.out
          have cc := HK.blk_cell hb
          have c0 := cc 0
          have c1 := cc 1
          have c2 := cc 2
          have c3 := cc 3
          clear cc
          obtain ⟨mk', mz', lp', r0', r1', r2', t0', t1', t2', u0', u1', u2', b0', b1', b2', hb', h2', h3', h5', h4'⟩ := HM9.out
          have cc' := HK.blk_cell hb'
          have c0' := cc' 0
          have c1' := cc' 1
          have c2' := cc' 2
          have c3' := cc' 3
          have c4' := cc' 4
          have c5' := cc' 5
          have c6' := cc' 6
          clear cc'
          have hc := at_valv (W := q2) ⟨mk', mz', lp', r0', r1', r2', t0', t1', t2', u0', u1', u2', b0', b1', b2', rfl, h2', h3', h5', h4'⟩ ⟨o, nm, a0, a1, a2, s0, s1, s2, rfl, h2, h3, h4⟩ HRW.out HA1.out.1 HMO.out HA1.out.2.1 HA1.out.2.2.1 HA1.out.2.2.2
          have HC : Hid (Calls Tryd.prog 16 _ _ fun e w' => e = .returned (.tuple #[.int .i64 (va : Int), .int .i64 0]) ∧ _) := Lib.hid hc
          clear hc h2 h3 h4 h2' h3' h4' h5' hb hb'
          go_wp2_with (go_at_call 16; ((with_reducible refine HC.out.mono ?_); rintro e w' ⟨rfl, hB⟩))
          go_meet
          exact ⟨rfl, rfl, hB⟩
        case rest =>
          obtain ⟨rfl, rfl, hB⟩ := hcut
          replace HM9 := Lib.hid (HM9.out.below hB)
          replace HF10 := Lib.hid (HF10.out.below hB)
          replace HF11 := Lib.hid (HF11.out.below hB)
          replace HRW := Lib.hid (HRW.out.below hB)
          replace HBL := Lib.hid (below_tr HBL.out hB)
          obtain ⟨q3, hq3⟩ : ∃ q : World, q = wc := ⟨_, rfl⟩
          subst hq3
          clear hB
          go_upto_region 7 with (fail)
          go_cut [15, 16] from 49 to 56 (fun v15 v16 wx => v15 = .int .i64 (vx : Int) ∧ v16 = .int .i64 0 ∧ Below q3.heap.size q3 wx)
          case first =>
            refine Go.RE.wp_region_eachg [50, 51, 52, 53, 54, 49, 55, 56, 15, 16] (fun L x W => (Below q3.heap.size q3 W) ∧ (L 0 = true → IsMv W (x 50) (mdl 4 n rl [u4, u5, u6])) ∧ (L 1 = true → IsFv W (x 51) (ff)) ∧ (L 2 = true → IsFsV W (x 52) [ff]) ∧ (L 3 = true → IsFv W (x 53) (.mk 10 ⟨#[]⟩ [] [ff])) ∧ (L 4 = true → x 54 = .tuple #[.int .i64 (vx : Int), .int .i64 0]) ∧ (L 5 = true → x 49 = .tuple #[.int .i64 (vx : Int), .int .i64 0]) ∧ (L 6 = true → x 55 = .int .i64 (vx : Int)) ∧ (L 7 = true → x 56 = .int .i64 0) ∧ (L 8 = true → x 15 = .int .i64 (vx : Int)) ∧ (L 9 = true → x 16 = .int .i64 0)) (by kernel_rfl) (by kernel_rfl) (by kernel_rfl) ?_ ((Go.RE.Each.cons ?_ (Go.RE.Each.cons ?_ (Go.RE.Each.cons ?_ (Go.RE.Each.cons ?_ (Go.RE.Each.cons ?_ (Go.RE.Each.cons ?_ (Go.RE.Each.cons ?_ (Go.RE.Each.cons ?_ (Go.RE.Each.cons ?_ (Go.RE.Each.cons ?_ Go.RE.Each.nil))))))))))) ?_
            · exact fun x => ⟨bl_dr (Below.refl _ _), fun h => (by cases h), fun h => (by cases h), fun h => (by cases h), fun h => (by cases h), fun h => (by cases h), fun h => (by cases h), fun h => (by cases h), fun h => (by cases h), fun h => (by cases h), fun h => (by cases h)⟩
            · intro L x a wR K hL hd hf hx hΦ hK
              obtain ⟨hI, f0, f1, f2, f3, f4, f5, f6, f7, f8, f9⟩ := hΦ
              refine ⟨fun _ => ?_, fun h => absurd h (by rw [Go.RE.wanted_none rfl]; decide)⟩
              have e9 : a.tmps[9]? = some (.pointer (some ⟨B9, 0, none⟩)) := hf 9 (of_decide_eq_true (by kernel_rfl))
              clear hf hx hd
              obtain ⟨mk, mz, lp, r0, r1, r2, t0, t1, t2, u0, u1, u2, b0, b1, b2, hb, h2, h3, h5, h4⟩ := (HM9.out.below hI)
              have cc := HK.blk_cell hb
              have c0 := cc 0
              have c1 := cc 1
              have c2 := cc 2
              have c3 := cc 3
              have c4 := cc 4
              have c5 := cc 5
              have c6 := cc 6
              clear cc
              go_simp
              refine hK _ _ ?_
              exact ⟨hI, fun _ => ⟨mk, mz, lp, r0, r1, r2, t0, t1, t2, u0, u1, u2, b0, b1, b2, rfl, h2, h3, h5, h4⟩, fun h => f1 h, fun h => f2 h, fun h => f3 h, fun h => f4 h, fun h => f5 h, fun h => f6 h, fun h => f7 h, fun h => f8 h, fun h => f9 h⟩
            · intro L x a wR K hL hd hf hx hΦ hK
              obtain ⟨hI, f0, f1, f2, f3, f4, f5, f6, f7, f8, f9⟩ := hΦ
              refine ⟨fun _ => ?_, fun h => absurd h (by rw [Go.RE.wanted_none rfl]; decide)⟩
              have e10 : a.tmps[10]? = some (.pointer (some ⟨B10, 0, none⟩)) := hf 10 (of_decide_eq_true (by kernel_rfl))
              clear hf hx hd
              obtain ⟨o, nm, a0, a1, a2, s0, s1, s2, hb, h2, h3, h4⟩ := (HF10.out.below hI)
              have cc := HK.blk_cell hb
              have c0 := cc 0
              have c1 := cc 1
              have c2 := cc 2
              have c3 := cc 3
              clear cc
              go_simp
              refine hK _ _ ?_
              exact ⟨hI, fun h => f0 h, fun _ => ⟨o, nm, a0, a1, a2, s0, s1, s2, rfl, h2, h3, h4⟩, fun h => f2 h, fun h => f3 h, fun h => f4 h, fun h => f5 h, fun h => f6 h, fun h => f7 h, fun h => f8 h, fun h => f9 h⟩
            · intro L x a wR K hL hd hf hx hΦ hK
              obtain ⟨hI, f0, f1, f2, f3, f4, f5, f6, f7, f8, f9⟩ := hΦ
              refine ⟨fun _ => ?_, fun h => absurd h (by rw [Go.RE.wanted_none rfl]; decide)⟩
              have d1 := f1 (hd 1 (by kernel_rfl))
              have e51 : a.tmps[51]? = some (x 51) := hx 1 _ 51 rfl rfl (hd 1 (by kernel_rfl))
              clear hf hx hd
              obtain ⟨o, nm, a0, a1, a2, s0, s1, s2, hv, h2, h3, h4⟩ := d1
              rw [hv] at e51
              go_simp
              refine hK _ _ ?_
              exact ⟨below_tr hI (below_alloc _ _), fun h => (f0 h).below (below_alloc wR _), fun h => (f1 h).below (below_alloc wR _), fun _ => build1 h2 h3 h4, fun h => (f3 h).below (below_alloc wR _), fun h => f4 h, fun h => f5 h, fun h => f6 h, fun h => f7 h, fun h => f8 h, fun h => f9 h⟩
            · intro L x a wR K hL hd hf hx hΦ hK
              obtain ⟨hI, f0, f1, f2, f3, f4, f5, f6, f7, f8, f9⟩ := hΦ
              refine ⟨fun _ => ?_, fun h => absurd h (by rw [Go.RE.wanted_none rfl]; decide)⟩
              have d2 := f2 (hd 2 (by kernel_rfl))
              have e52 : a.tmps[52]? = some (x 52) := hx 2 _ 52 rfl rfl (hd 2 (by kernel_rfl))
              clear hf hx hd
              obtain ⟨s0, s1, s2, hv, h2⟩ := d2
              rw [hv] at e52
              have HC : Hid (Calls Tryd.prog 15 #[.int .u8 10, .slice s0 s1 s2] wR fun e w' => e = .returned (.agg #[.int .u8 10, .string ⟨#[]⟩, .slice none 0 0, .slice s0 s1 s2]) ∧ IsFv w' (.agg #[.int .u8 10, .string ⟨#[]⟩, .slice none 0 0, .slice s0 s1 s2]) (.mk 10 ⟨#[]⟩ [] [ff]) ∧ Below wR.heap.size wR w') := Lib.hid (joinv (op := 10) (by omega) ⟨s0, s1, s2, rfl, h2⟩)
              go_simp
              go_at_call 15
              with_reducible refine HC.out.mono ?_
              rintro e w' ⟨rfl, hfv, hB8⟩
              simp only
              refine hK _ _ ?_
              exact ⟨below_tr hI hB8, fun h => (f0 h).below hB8, fun h => (f1 h).below hB8, fun h => (f2 h).below hB8, fun _ => hfv, fun h => f4 h, fun h => f5 h, fun h => f6 h, fun h => f7 h, fun h => f8 h, fun h => f9 h⟩
            · intro L x a wR K hL hd hf hx hΦ hK
              obtain ⟨hI, f0, f1, f2, f3, f4, f5, f6, f7, f8, f9⟩ := hΦ
              refine ⟨fun _ => ?_, fun h => absurd h (by rw [Go.RE.wanted_none rfl]; decide)⟩
              have d0 := f0 (hd 0 (by kernel_rfl))
              have e50 : a.tmps[50]? = some (x 50) := hx 0 _ 50 rfl rfl (hd 0 (by kernel_rfl))
              have d3 := f3 (hd 3 (by kernel_rfl))
              have e53 : a.tmps[53]? = some (x 53) := hx 3 _ 53 rfl rfl (hd 3 (by kernel_rfl))
              clear hf hx hd
              have hc := at_valv d0 d3 (HRW.out.below hI) HA2.out.1 HMO.out HA2.out.2.1 HA2.out.2.2.1 HA2.out.2.2.2
              obtain ⟨mk, mz, lp, r0, r1, r2, t0, t1, t2, u0, u1, u2, b0, b1, b2, hv, _, _, _, _⟩ := d0
              obtain ⟨o', nm', a0', a1', a2', s0', s1', s2', hv', _, _, _⟩ := d3
              rw [hv] at e50
              rw [hv'] at e53
              rw [hv, hv'] at hc
              have HC : Hid (Calls Tryd.prog 16 _ _ fun e w' => e = .returned (.tuple #[.int .i64 (vx : Int), .int .i64 0]) ∧ _) := Lib.hid hc
              clear hc
              go_simp
              go_at_call 16
              with_reducible refine HC.out.mono ?_
              rintro e w' ⟨rfl, hB8⟩
              simp only
              refine hK _ _ ?_
              exact ⟨below_tr hI hB8, fun h => (f0 h).below hB8, fun h => (f1 h).below hB8, fun h => (f2 h).below hB8, fun h => (f3 h).below hB8, fun _ => rfl, fun h => f5 h, fun h => f6 h, fun h => f7 h, fun h => f8 h, fun h => f9 h⟩
            · intro L x a wR K hL hd hf hx hΦ hK
              obtain ⟨hI, f0, f1, f2, f3, f4, f5, f6, f7, f8, f9⟩ := hΦ
              refine ⟨fun _ => ?_, fun h => absurd h (by rw [Go.RE.wanted_none rfl]; decide)⟩
              have d4 := f4 (hd 4 (by kernel_rfl))
              have e54 : a.tmps[54]? = some (x 54) := hx 4 _ 54 rfl rfl (hd 4 (by kernel_rfl))
              rw [d4] at e54
              clear hf hx hd
              go_simp
              refine hK _ _ ?_
              exact ⟨hI, fun h => f0 h, fun h => f1 h, fun h => f2 h, fun h => f3 h, fun h => f4 h, fun _ => rfl, fun h => f6 h, fun h => f7 h, fun h => f8 h, fun h => f9 h⟩
            · intro L x a wR K hL hd hf hx hΦ hK
              obtain ⟨hI, f0, f1, f2, f3, f4, f5, f6, f7, f8, f9⟩ := hΦ
              refine ⟨fun _ => ?_, fun h => absurd h (by rw [Go.RE.wanted_none rfl]; decide)⟩
              have d5 := f5 (hd 5 (by kernel_rfl))
              have e49 : a.tmps[49]? = some (x 49) := hx 5 _ 49 rfl rfl (hd 5 (by kernel_rfl))
              rw [d5] at e49
              clear hf hx hd
              go_simp
              refine hK _ _ ?_
              exact ⟨hI, fun h => f0 h, fun h => f1 h, fun h => f2 h, fun h => f3 h, fun h => f4 h, fun h => f5 h, fun _ => rfl, fun h => f7 h, fun h => f8 h, fun h => f9 h⟩
            · intro L x a wR K hL hd hf hx hΦ hK
              obtain ⟨hI, f0, f1, f2, f3, f4, f5, f6, f7, f8, f9⟩ := hΦ
              refine ⟨fun _ => ?_, fun h => absurd h (by rw [Go.RE.wanted_none rfl]; decide)⟩
              have d5 := f5 (hd 5 (by kernel_rfl))
              have e49 : a.tmps[49]? = some (x 49) := hx 5 _ 49 rfl rfl (hd 5 (by kernel_rfl))
              rw [d5] at e49
              clear hf hx hd
              go_simp
              refine hK _ _ ?_
              exact ⟨hI, fun h => f0 h, fun h => f1 h, fun h => f2 h, fun h => f3 h, fun h => f4 h, fun h => f5 h, fun h => f6 h, fun _ => rfl, fun h => f8 h, fun h => f9 h⟩
            · intro L x a wR K hL hd hf hx hΦ hK
              obtain ⟨hI, f0, f1, f2, f3, f4, f5, f6, f7, f8, f9⟩ := hΦ
              refine ⟨fun _ => ?_, fun h => absurd h (by rw [Go.RE.wanted_none rfl]; decide)⟩
              have d6 := f6 (hd 6 (by kernel_rfl))
              have e55 : a.tmps[55]? = some (x 55) := hx 6 _ 55 rfl rfl (hd 6 (by kernel_rfl))
              rw [d6] at e55
              clear hf hx hd
              go_simp
              refine hK _ _ ?_
              exact ⟨hI, fun h => f0 h, fun h => f1 h, fun h => f2 h, fun h => f3 h, fun h => f4 h, fun h => f5 h, fun h => f6 h, fun h => f7 h, fun _ => rfl, fun h => f9 h⟩
            · intro L x a wR K hL hd hf hx hΦ hK
              obtain ⟨hI, f0, f1, f2, f3, f4, f5, f6, f7, f8, f9⟩ := hΦ
              refine ⟨fun _ => ?_, fun h => absurd h (by rw [Go.RE.wanted_none rfl]; decide)⟩
              have d7 := f7 (hd 7 (by kernel_rfl))
              have e56 : a.tmps[56]? = some (x 56) := hx 7 _ 56 rfl rfl (hd 7 (by kernel_rfl))
              rw [d7] at e56
              clear hf hx hd
              go_simp
              refine hK _ _ ?_
              exact ⟨hI, fun h => f0 h, fun h => f1 h, fun h => f2 h, fun h => f3 h, fun h => f4 h, fun h => f5 h, fun h => f6 h, fun h => f7 h, fun h => f8 h, fun _ => rfl⟩
            · rintro x W ⟨hI, f0, f1, f2, f3, f4, f5, f6, f7, f8, f9⟩
              simp only [Exit.then]
              go_step
              go_meet
              exact ⟨f8 rfl, f9 rfl, hI⟩
          case rest =>
            obtain ⟨rfl, rfl, hB⟩ := hcut
            replace HM9 := Lib.hid (HM9.out.below hB)
            replace HF10 := Lib.hid (HF10.out.below hB)
            replace HF11 := Lib.hid (HF11.out.below hB)
            replace HRW := Lib.hid (HRW.out.below hB)
            replace HBL := Lib.hid (below_tr HBL.out hB)
            obtain ⟨q4, hq4⟩ : ∃ q : World, q = wc := ⟨_, rfl⟩
            subst hq4
            clear hB
            go_upto_region 8 with (fail)
            go_cut [17, 18] from 57 to 64 (fun v17 v18 wx => v17 = .int .i64 (vd : Int) ∧ v18 = .int .i64 0 ∧ Below q4.heap.size q4 wx)
            case first =>
              refine Go.RE.wp_region_eachg [58, 59, 60, 61, 62, 57, 63, 64, 17, 18] (fun L x W => (Below q4.heap.size q4 W) ∧ (L 0 = true → IsMv W (x 58) (mdl 4 n rl [u4, u5, u6])) ∧ (L 1 = true → IsFv W (x 59) (ff)) ∧ (L 2 = true → IsFsV W (x 60) [ff]) ∧ (L 3 = true → IsFv W (x 61) (.mk 11 ⟨#[]⟩ [] [ff])) ∧ (L 4 = true → x 62 = .tuple #[.int .i64 (vd : Int), .int .i64 0]) ∧ (L 5 = true → x 57 = .tuple #[.int .i64 (vd : Int), .int .i64 0]) ∧ (L 6 = true → x 63 = .int .i64 (vd : Int)) ∧ (L 7 = true → x 64 = .int .i64 0) ∧ (L 8 = true → x 17 = .int .i64 (vd : Int)) ∧ (L 9 = true → x 18 = .int .i64 0)) (by kernel_rfl) (by kernel_rfl) (by kernel_rfl) ?_ ((Go.RE.Each.cons ?_ (Go.RE.Each.cons ?_ (Go.RE.Each.cons ?_ (Go.RE.Each.cons ?_ (Go.RE.Each.cons ?_ (Go.RE.Each.cons ?_ (Go.RE.Each.cons ?_ (Go.RE.Each.cons ?_ (Go.RE.Each.cons ?_ (Go.RE.Each.cons ?_ Go.RE.Each.nil))))))))))) ?_
              · exact fun x => ⟨bl_dr (Below.refl _ _), fun h => (by cases h), fun h => (by cases h), fun h => (by cases h), fun h => (by cases h), fun h => (by cases h), fun h => (by cases h), fun h => (by cases h), fun h => (by cases h), fun h => (by cases h), fun h => (by cases h)⟩
              · intro L x a wR K hL hd hf hx hΦ hK
                obtain ⟨hI, f0, f1, f2, f3, f4, f5, f6, f7, f8, f9⟩ := hΦ
                refine ⟨fun _ => ?_, fun h => absurd h (by rw [Go.RE.wanted_none rfl]; decide)⟩
                have e9 : a.tmps[9]? = some (.pointer (some ⟨B9, 0, none⟩)) := hf 9 (of_decide_eq_true (by kernel_rfl))
                clear hf hx hd
                obtain ⟨mk, mz, lp, r0, r1, r2, t0, t1, t2, u0, u1, u2, b0, b1, b2, hb, h2, h3, h5, h4⟩ := (HM9.out.below hI)
                have cc := HK.blk_cell hb
                have c0 := cc 0
                have c1 := cc 1
                have c2 := cc 2
                have c3 := cc 3
                have c4 := cc 4
                have c5 := cc 5
                have c6 := cc 6
                clear cc
                go_simp
                refine hK _ _ ?_
                exact ⟨hI, fun _ => ⟨mk, mz, lp, r0, r1, r2, t0, t1, t2, u0, u1, u2, b0, b1, b2, rfl, h2, h3, h5, h4⟩, fun h => f1 h, fun h => f2 h, fun h => f3 h, fun h => f4 h, fun h => f5 h, fun h => f6 h, fun h => f7 h, fun h => f8 h, fun h => f9 h⟩
              · intro L x a wR K hL hd hf hx hΦ hK
                obtain ⟨hI, f0, f1, f2, f3, f4, f5, f6, f7, f8, f9⟩ := hΦ
                refine ⟨fun _ => ?_, fun h => absurd h (by rw [Go.RE.wanted_none rfl]; decide)⟩
                have e10 : a.tmps[10]? = some (.pointer (some ⟨B10, 0, none⟩)) := hf 10 (of_decide_eq_true (by kernel_rfl))
                clear hf hx hd
                obtain ⟨o, nm, a0, a1, a2, s0, s1, s2, hb, h2, h3, h4⟩ := (HF10.out.below hI)
                have cc := HK.blk_cell hb
                have c0 := cc 0
                have c1 := cc 1
                have c2 := cc 2
                have c3 := cc 3
                clear cc
                go_simp
                refine hK _ _ ?_
                exact ⟨hI, fun h => f0 h, fun _ => ⟨o, nm, a0, a1, a2, s0, s1, s2, rfl, h2, h3, h4⟩, fun h => f2 h, fun h => f3 h, fun h => f4 h, fun h => f5 h, fun h => f6 h, fun h => f7 h, fun h => f8 h, fun h => f9 h⟩
              · intro L x a wR K hL hd hf hx hΦ hK
                obtain ⟨hI, f0, f1, f2, f3, f4, f5, f6, f7, f8, f9⟩ := hΦ
                refine ⟨fun _ => ?_, fun h => absurd h (by rw [Go.RE.wanted_none rfl]; decide)⟩
                have d1 := f1 (hd 1 (by kernel_rfl))
                have e59 : a.tmps[59]? = some (x 59) := hx 1 _ 59 rfl rfl (hd 1 (by kernel_rfl))
                clear hf hx hd
                obtain ⟨o, nm, a0, a1, a2, s0, s1, s2, hv, h2, h3, h4⟩ := d1
                rw [hv] at e59
                go_simp
                refine hK _ _ ?_
                exact ⟨below_tr hI (below_alloc _ _), fun h => (f0 h).below (below_alloc wR _), fun h => (f1 h).below (below_alloc wR _), fun _ => build1 h2 h3 h4, fun h => (f3 h).below (below_alloc wR _), fun h => f4 h, fun h => f5 h, fun h => f6 h, fun h => f7 h, fun h => f8 h, fun h => f9 h⟩
              · intro L x a wR K hL hd hf hx hΦ hK
                obtain ⟨hI, f0, f1, f2, f3, f4, f5, f6, f7, f8, f9⟩ := hΦ
                refine ⟨fun _ => ?_, fun h => absurd h (by rw [Go.RE.wanted_none rfl]; decide)⟩
                have d2 := f2 (hd 2 (by kernel_rfl))
                have e60 : a.tmps[60]? = some (x 60) := hx 2 _ 60 rfl rfl (hd 2 (by kernel_rfl))
                clear hf hx hd
                obtain ⟨s0, s1, s2, hv, h2⟩ := d2
                rw [hv] at e60
                have HC : Hid (Calls Tryd.prog 15 #[.int .u8 11, .slice s0 s1 s2] wR fun e w' => e = .returned (.agg #[.int .u8 11, .string ⟨#[]⟩, .slice none 0 0, .slice s0 s1 s2]) ∧ IsFv w' (.agg #[.int .u8 11, .string ⟨#[]⟩, .slice none 0 0, .slice s0 s1 s2]) (.mk 11 ⟨#[]⟩ [] [ff]) ∧ Below wR.heap.size wR w') := Lib.hid (joinv (op := 11) (by omega) ⟨s0, s1, s2, rfl, h2⟩)
                go_simp
                go_at_call 15
                with_reducible refine HC.out.mono ?_
                rintro e w' ⟨rfl, hfv, hB8⟩
                simp only
                refine hK _ _ ?_
                exact ⟨below_tr hI hB8, fun h => (f0 h).below hB8, fun h => (f1 h).below hB8, fun h => (f2 h).below hB8, fun _ => hfv, fun h => f4 h, fun h => f5 h, fun h => f6 h, fun h => f7 h, fun h => f8 h, fun h => f9 h⟩
              · intro L x a wR K hL hd hf hx hΦ hK
                obtain ⟨hI, f0, f1, f2, f3, f4, f5, f6, f7, f8, f9⟩ := hΦ
                refine ⟨fun _ => ?_, fun h => absurd h (by rw [Go.RE.wanted_none rfl]; decide)⟩
                have d0 := f0 (hd 0 (by kernel_rfl))
                have e58 : a.tmps[58]? = some (x 58) := hx 0 _ 58 rfl rfl (hd 0 (by kernel_rfl))
                have d3 := f3 (hd 3 (by kernel_rfl))
                have e61 : a.tmps[61]? = some (x 61) := hx 3 _ 61 rfl rfl (hd 3 (by kernel_rfl))
                clear hf hx hd
                have hc := at_valv d0 d3 (HRW.out.below hI) HA3.out.1 HMO.out HA3.out.2.1 HA3.out.2.2.1 HA3.out.2.2.2
                obtain ⟨mk, mz, lp, r0, r1, r2, t0, t1, t2, u0, u1, u2, b0, b1, b2, hv, _, _, _, _⟩ := d0
                obtain ⟨o', nm', a0', a1', a2', s0', s1', s2', hv', _, _, _⟩ := d3
                rw [hv] at e58
                rw [hv'] at e61
                rw [hv, hv'] at hc
                have HC : Hid (Calls Tryd.prog 16 _ _ fun e w' => e = .returned (.tuple #[.int .i64 (vd : Int), .int .i64 0]) ∧ _) := Lib.hid hc
                clear hc
                go_simp
                go_at_call 16
                with_reducible refine HC.out.mono ?_
                rintro e w' ⟨rfl, hB8⟩
                simp only
                refine hK _ _ ?_
                exact ⟨below_tr hI hB8, fun h => (f0 h).below hB8, fun h => (f1 h).below hB8, fun h => (f2 h).below hB8, fun h => (f3 h).below hB8, fun _ => rfl, fun h => f5 h, fun h => f6 h, fun h => f7 h, fun h => f8 h, fun h => f9 h⟩
              · intro L x a wR K hL hd hf hx hΦ hK
                obtain ⟨hI, f0, f1, f2, f3, f4, f5, f6, f7, f8, f9⟩ := hΦ
                refine ⟨fun _ => ?_, fun h => absurd h (by rw [Go.RE.wanted_none rfl]; decide)⟩
                have d4 := f4 (hd 4 (by kernel_rfl))
                have e62 : a.tmps[62]? = some (x 62) := hx 4 _ 62 rfl rfl (hd 4 (by kernel_rfl))
                rw [d4] at e62
                clear hf hx hd
                go_simp
                refine hK _ _ ?_
                exact ⟨hI, fun h => f0 h, fun h => f1 h, fun h => f2 h, fun h => f3 h, fun h => f4 h, fun _ => rfl, fun h => f6 h, fun h => f7 h, fun h => f8 h, fun h => f9 h⟩
              · intro L x a wR K hL hd hf hx hΦ hK
                obtain ⟨hI, f0, f1, f2, f3, f4, f5, f6, f7, f8, f9⟩ := hΦ
                refine ⟨fun _ => ?_, fun h => absurd h (by rw [Go.RE.wanted_none rfl]; decide)⟩
                have d5 := f5 (hd 5 (by kernel_rfl))
                have e57 : a.tmps[57]? = some (x 57) := hx 5 _ 57 rfl rfl (hd 5 (by kernel_rfl))
                rw [d5] at e57
                clear hf hx hd
                go_simp
                refine hK _ _ ?_
                exact ⟨hI, fun h => f0 h, fun h => f1 h, fun h => f2 h, fun h => f3 h, fun h => f4 h, fun h => f5 h, fun _ => rfl, fun h => f7 h, fun h => f8 h, fun h => f9 h⟩
              · intro L x a wR K hL hd hf hx hΦ hK
                obtain ⟨hI, f0, f1, f2, f3, f4, f5, f6, f7, f8, f9⟩ := hΦ
                refine ⟨fun _ => ?_, fun h => absurd h (by rw [Go.RE.wanted_none rfl]; decide)⟩
                have d5 := f5 (hd 5 (by kernel_rfl))
                have e57 : a.tmps[57]? = some (x 57) := hx 5 _ 57 rfl rfl (hd 5 (by kernel_rfl))
                rw [d5] at e57
                clear hf hx hd
                go_simp
                refine hK _ _ ?_
                exact ⟨hI, fun h => f0 h, fun h => f1 h, fun h => f2 h, fun h => f3 h, fun h => f4 h, fun h => f5 h, fun h => f6 h, fun _ => rfl, fun h => f8 h, fun h => f9 h⟩
              · intro L x a wR K hL hd hf hx hΦ hK
                obtain ⟨hI, f0, f1, f2, f3, f4, f5, f6, f7, f8, f9⟩ := hΦ
                refine ⟨fun _ => ?_, fun h => absurd h (by rw [Go.RE.wanted_none rfl]; decide)⟩
                have d6 := f6 (hd 6 (by kernel_rfl))
                have e63 : a.tmps[63]? = some (x 63) := hx 6 _ 63 rfl rfl (hd 6 (by kernel_rfl))
                rw [d6] at e63
                clear hf hx hd
                go_simp
                refine hK _ _ ?_
                exact ⟨hI, fun h => f0 h, fun h => f1 h, fun h => f2 h, fun h => f3 h, fun h => f4 h, fun h => f5 h, fun h => f6 h, fun h => f7 h, fun _ => rfl, fun h => f9 h⟩
              · intro L x a wR K hL hd hf hx hΦ hK
                obtain ⟨hI, f0, f1, f2, f3, f4, f5, f6, f7, f8, f9⟩ := hΦ
                refine ⟨fun _ => ?_, fun h => absurd h (by rw [Go.RE.wanted_none rfl]; decide)⟩
                have d7 := f7 (hd 7 (by kernel_rfl))
                have e64 : a.tmps[64]? = some (x 64) := hx 7 _ 64 rfl rfl (hd 7 (by kernel_rfl))
                rw [d7] at e64
                clear hf hx hd
                go_simp
                refine hK _ _ ?_
                exact ⟨hI, fun h => f0 h, fun h => f1 h, fun h => f2 h, fun h => f3 h, fun h => f4 h, fun h => f5 h, fun h => f6 h, fun h => f7 h, fun h => f8 h, fun _ => rfl⟩
              · rintro x W ⟨hI, f0, f1, f2, f3, f4, f5, f6, f7, f8, f9⟩
                simp only [Exit.then]
                go_step
                go_meet
                exact ⟨f8 rfl, f9 rfl, hI⟩
            case rest =>
              obtain ⟨rfl, rfl, hB⟩ := hcut
              replace HM9 := Lib.hid (HM9.out.below hB)
              replace HF10 := Lib.hid (HF10.out.below hB)
              replace HF11 := Lib.hid (HF11.out.below hB)
              replace HRW := Lib.hid (HRW.out.below hB)
              replace HBL := Lib.hid (below_tr HBL.out hB)
              obtain ⟨q5, hq5⟩ : ∃ q : World, q = wc := ⟨_, rfl⟩
              subst hq5
              clear hB
              go_upto_region 9 with (fail)
              go_cut [19, 20] from 65 to 76 (fun v19 v20 wx => v19 = .int .i64 (vd : Int) ∧ v20 = .int .i64 0 ∧ Below q5.heap.size q5 wx)
              case first =>
                refine Go.RE.wp_region_eachg [66, 67, 68, 69, 70, 71, 72, 73, 74, 65, 75, 76, 19, 20] (fun L x W => (Below q5.heap.size q5 W) ∧ (L 0 = true → IsMv W (x 66) (mdl 4 n rl [u4, u5, u6])) ∧ (L 1 = true → IsFv W (x 67) (ff)) ∧ (L 2 = true → IsFsV W (x 68) [ff]) ∧ (L 3 = true → IsFv W (x 69) (.mk 3 ⟨#[]⟩ [] [ff])) ∧ (L 4 = true → IsFsV W (x 70) [.mk 3 ⟨#[]⟩ [] [ff]]) ∧ (L 5 = true → IsFv W (x 71) (.mk 10 ⟨#[]⟩ [] [.mk 3 ⟨#[]⟩ [] [ff]])) ∧ (L 6 = true → IsFsV W (x 72) [.mk 10 ⟨#[]⟩ [] [.mk 3 ⟨#[]⟩ [] [ff]]]) ∧ (L 7 = true → IsFv W (x 73) (.mk 3 ⟨#[]⟩ [] [.mk 10 ⟨#[]⟩ [] [.mk 3 ⟨#[]⟩ [] [ff]]])) ∧ (L 8 = true → x 74 = .tuple #[.int .i64 (vd : Int), .int .i64 0]) ∧ (L 9 = true → x 65 = .tuple #[.int .i64 (vd : Int), .int .i64 0]) ∧ (L 10 = true → x 75 = .int .i64 (vd : Int)) ∧ (L 11 = true → x 76 = .int .i64 0) ∧ (L 12 = true → x 19 = .int .i64 (vd : Int)) ∧ (L 13 = true → x 20 = .int .i64 0)) (by kernel_rfl) (by kernel_rfl) (by kernel_rfl) ?_ ((Go.RE.Each.cons ?_ (Go.RE.Each.cons ?_ (Go.RE.Each.cons ?_ (Go.RE.Each.cons ?_ (Go.RE.Each.cons ?_ (Go.RE.Each.cons ?_ (Go.RE.Each.cons ?_ (Go.RE.Each.cons ?_ (Go.RE.Each.cons ?_ (Go.RE.Each.cons ?_ (Go.RE.Each.cons ?_ (Go.RE.Each.cons ?_ (Go.RE.Each.cons ?_ (Go.RE.Each.cons ?_ Go.RE.Each.nil))))))))))))))) ?_
                · exact fun x => ⟨bl_dr (Below.refl _ _), fun h => (by cases h), fun h => (by cases h), fun h => (by cases h), fun h => (by cases h), fun h => (by cases h), fun h => (by cases h), fun h => (by cases h), fun h => (by cases h), fun h => (by cases h), fun h => (by cases h), fun h => (by cases h), fun h => (by cases h), fun h => (by cases h), fun h => (by cases h)⟩
                · intro L x a wR K hL hd hf hx hΦ hK
                  obtain ⟨hI, f0, f1, f2, f3, f4, f5, f6, f7, f8, f9, f10, f11, f12, f13⟩ := hΦ
                  refine ⟨fun _ => ?_, fun h => absurd h (by rw [Go.RE.wanted_none rfl]; decide)⟩
                  have e9 : a.tmps[9]? = some (.pointer (some ⟨B9, 0, none⟩)) := hf 9 (of_decide_eq_true (by kernel_rfl))
                  clear hf hx hd
                  obtain ⟨mk, mz, lp, r0, r1, r2, t0, t1, t2, u0, u1, u2, b0, b1, b2, hb, h2, h3, h5, h4⟩ := (HM9.out.below hI)
                  have cc := HK.blk_cell hb
                  have c0 := cc 0
                  have c1 := cc 1
                  have c2 := cc 2
                  have c3 := cc 3
                  have c4 := cc 4
                  have c5 := cc 5
                  have c6 := cc 6
                  clear cc
                  go_simp
                  refine hK _ _ ?_
                  exact ⟨hI, fun _ => ⟨mk, mz, lp, r0, r1, r2, t0, t1, t2, u0, u1, u2, b0, b1, b2, rfl, h2, h3, h5, h4⟩, fun h => f1 h, fun h => f2 h, fun h => f3 h, fun h => f4 h, fun h => f5 h, fun h => f6 h, fun h => f7 h, fun h => f8 h, fun h => f9 h, fun h => f10 h, fun h => f11 h, fun h => f12 h, fun h => f13 h⟩
                · intro L x a wR K hL hd hf hx hΦ hK
                  obtain ⟨hI, f0, f1, f2, f3, f4, f5, f6, f7, f8, f9, f10, f11, f12, f13⟩ := hΦ
                  refine ⟨fun _ => ?_, fun h => absurd h (by rw [Go.RE.wanted_none rfl]; decide)⟩
                  have e10 : a.tmps[10]? = some (.pointer (some ⟨B10, 0, none⟩)) := hf 10 (of_decide_eq_true (by kernel_rfl))
                  clear hf hx hd
                  obtain ⟨o, nm, a0, a1, a2, s0, s1, s2, hb, h2, h3, h4⟩ := (HF10.out.below hI)
                  have cc := HK.blk_cell hb
                  have c0 := cc 0
                  have c1 := cc 1
                  have c2 := cc 2
                  have c3 := cc 3
                  clear cc
                  go_simp
                  refine hK _ _ ?_
                  exact ⟨hI, fun h => f0 h, fun _ => ⟨o, nm, a0, a1, a2, s0, s1, s2, rfl, h2, h3, h4⟩, fun h => f2 h, fun h => f3 h, fun h => f4 h, fun h => f5 h, fun h => f6 h, fun h => f7 h, fun h => f8 h, fun h => f9 h, fun h => f10 h, fun h => f11 h, fun h => f12 h, fun h => f13 h⟩
                · intro L x a wR K hL hd hf hx hΦ hK
                  obtain ⟨hI, f0, f1, f2, f3, f4, f5, f6, f7, f8, f9, f10, f11, f12, f13⟩ := hΦ
                  refine ⟨fun _ => ?_, fun h => absurd h (by rw [Go.RE.wanted_none rfl]; decide)⟩
                  have d1 := f1 (hd 1 (by kernel_rfl))
                  have e67 : a.tmps[67]? = some (x 67) := hx 1 _ 67 rfl rfl (hd 1 (by kernel_rfl))
                  clear hf hx hd
                  obtain ⟨o, nm, a0, a1, a2, s0, s1, s2, hv, h2, h3, h4⟩ := d1
                  rw [hv] at e67
                  go_simp
                  refine hK _ _ ?_
                  exact ⟨below_tr hI (below_alloc _ _), fun h => (f0 h).below (below_alloc wR _), fun h => (f1 h).below (below_alloc wR _), fun _ => build1 h2 h3 h4, fun h => (f3 h).below (below_alloc wR _), fun h => (f4 h).below (below_alloc wR _), fun h => (f5 h).below (below_alloc wR _), fun h => (f6 h).below (below_alloc wR _), fun h => (f7 h).below (below_alloc wR _), fun h => f8 h, fun h => f9 h, fun h => f10 h, fun h => f11 h, fun h => f12 h, fun h => f13 h⟩
                · intro L x a wR K hL hd hf hx hΦ hK
                  obtain ⟨hI, f0, f1, f2, f3, f4, f5, f6, f7, f8, f9, f10, f11, f12, f13⟩ := hΦ
                  refine ⟨fun _ => ?_, fun h => absurd h (by rw [Go.RE.wanted_none rfl]; decide)⟩
                  have d2 := f2 (hd 2 (by kernel_rfl))
                  have e68 : a.tmps[68]? = some (x 68) := hx 2 _ 68 rfl rfl (hd 2 (by kernel_rfl))
                  clear hf hx hd
                  obtain ⟨s0, s1, s2, hv, h2⟩ := d2
                  rw [hv] at e68
                  have HC : Hid (Calls Tryd.prog 15 #[.int .u8 3, .slice s0 s1 s2] wR fun e w' => e = .returned (.agg #[.int .u8 3, .string ⟨#[]⟩, .slice none 0 0, .slice s0 s1 s2]) ∧ IsFv w' (.agg #[.int .u8 3, .string ⟨#[]⟩, .slice none 0 0, .slice s0 s1 s2]) (.mk 3 ⟨#[]⟩ [] [ff]) ∧ Below wR.heap.size wR w') := Lib.hid (joinv (op := 3) (by omega) ⟨s0, s1, s2, rfl, h2⟩)
                  go_simp
                  go_at_call 15
                  with_reducible refine HC.out.mono ?_
                  rintro e w' ⟨rfl, hfv, hB8⟩
                  simp only
                  refine hK _ _ ?_
                  exact ⟨below_tr hI hB8, fun h => (f0 h).below hB8, fun h => (f1 h).below hB8, fun h => (f2 h).below hB8, fun _ => hfv, fun h => (f4 h).below hB8, fun h => (f5 h).below hB8, fun h => (f6 h).below hB8, fun h => (f7 h).below hB8, fun h => f8 h, fun h => f9 h, fun h => f10 h, fun h => f11 h, fun h => f12 h, fun h => f13 h⟩
                · intro L x a wR K hL hd hf hx hΦ hK
                  obtain ⟨hI, f0, f1, f2, f3, f4, f5, f6, f7, f8, f9, f10, f11, f12, f13⟩ := hΦ
                  refine ⟨fun _ => ?_, fun h => absurd h (by rw [Go.RE.wanted_none rfl]; decide)⟩
                  have d3 := f3 (hd 3 (by kernel_rfl))
                  have e69 : a.tmps[69]? = some (x 69) := hx 3 _ 69 rfl rfl (hd 3 (by kernel_rfl))
                  clear hf hx hd
                  obtain ⟨o, nm, a0, a1, a2, s0, s1, s2, hv, h2, h3, h4⟩ := d3
                  rw [hv] at e69
                  go_simp
                  refine hK _ _ ?_
                  exact ⟨below_tr hI (below_alloc _ _), fun h => (f0 h).below (below_alloc wR _), fun h => (f1 h).below (below_alloc wR _), fun h => (f2 h).below (below_alloc wR _), fun h => (f3 h).below (below_alloc wR _), fun _ => build1 h2 h3 h4, fun h => (f5 h).below (below_alloc wR _), fun h => (f6 h).below (below_alloc wR _), fun h => (f7 h).below (below_alloc wR _), fun h => f8 h, fun h => f9 h, fun h => f10 h, fun h => f11 h, fun h => f12 h, fun h => f13 h⟩
                · intro L x a wR K hL hd hf hx hΦ hK
                  obtain ⟨hI, f0, f1, f2, f3, f4, f5, f6, f7, f8, f9, f10, f11, f12, f13⟩ := hΦ
                  refine ⟨fun _ => ?_, fun h => absurd h (by rw [Go.RE.wanted_none rfl]; decide)⟩
                  have d4 := f4 (hd 4 (by kernel_rfl))
                  have e70 : a.tmps[70]? = some (x 70) := hx 4 _ 70 rfl rfl (hd 4 (by kernel_rfl))
                  clear hf hx hd
                  obtain ⟨s0, s1, s2, hv, h2⟩ := d4
                  rw [hv] at e70
                  have HC : Hid (Calls Tryd.prog 15 #[.int .u8 10, .slice s0 s1 s2] wR fun e w' => e = .returned (.agg #[.int .u8 10, .string ⟨#[]⟩, .slice none 0 0, .slice s0 s1 s2]) ∧ IsFv w' (.agg #[.int .u8 10, .string ⟨#[]⟩, .slice none 0 0, .slice s0 s1 s2]) (.mk 10 ⟨#[]⟩ [] [.mk 3 ⟨#[]⟩ [] [ff]]) ∧ Below wR.heap.size wR w') := Lib.hid (joinv (op := 10) (by omega) ⟨s0, s1, s2, rfl, h2⟩)
                  go_simp
                  go_at_call 15
                  with_reducible refine HC.out.mono ?_
                  rintro e w' ⟨rfl, hfv, hB8⟩
                  simp only
                  refine hK _ _ ?_
                  exact ⟨below_tr hI hB8, fun h => (f0 h).below hB8, fun h => (f1 h).below hB8, fun h => (f2 h).below hB8, fun h => (f3 h).below hB8, fun h => (f4 h).below hB8, fun _ => hfv, fun h => (f6 h).below hB8, fun h => (f7 h).below hB8, fun h => f8 h, fun h => f9 h, fun h => f10 h, fun h => f11 h, fun h => f12 h, fun h => f13 h⟩
                · intro L x a wR K hL hd hf hx hΦ hK
                  obtain ⟨hI, f0, f1, f2, f3, f4, f5, f6, f7, f8, f9, f10, f11, f12, f13⟩ := hΦ
                  refine ⟨fun _ => ?_, fun h => absurd h (by rw [Go.RE.wanted_none rfl]; decide)⟩
                  have d5 := f5 (hd 5 (by kernel_rfl))
                  have e71 : a.tmps[71]? = some (x 71) := hx 5 _ 71 rfl rfl (hd 5 (by kernel_rfl))
                  clear hf hx hd
                  obtain ⟨o, nm, a0, a1, a2, s0, s1, s2, hv, h2, h3, h4⟩ := d5
                  rw [hv] at e71
                  go_simp
                  refine hK _ _ ?_
                  exact ⟨below_tr hI (below_alloc _ _), fun h => (f0 h).below (below_alloc wR _), fun h => (f1 h).below (below_alloc wR _), fun h => (f2 h).below (below_alloc wR _), fun h => (f3 h).below (below_alloc wR _), fun h => (f4 h).below (below_alloc wR _), fun h => (f5 h).below (below_alloc wR _), fun _ => build1 h2 h3 h4, fun h => (f7 h).below (below_alloc wR _), fun h => f8 h, fun h => f9 h, fun h => f10 h, fun h => f11 h, fun h => f12 h, fun h => f13 h⟩
                · intro L x a wR K hL hd hf hx hΦ hK
                  obtain ⟨hI, f0, f1, f2, f3, f4, f5, f6, f7, f8, f9, f10, f11, f12, f13⟩ := hΦ
                  refine ⟨fun _ => ?_, fun h => absurd h (by rw [Go.RE.wanted_none rfl]; decide)⟩
                  have d6 := f6 (hd 6 (by kernel_rfl))
                  have e72 : a.tmps[72]? = some (x 72) := hx 6 _ 72 rfl rfl (hd 6 (by kernel_rfl))
                  clear hf hx hd
                  obtain ⟨s0, s1, s2, hv, h2⟩ := d6
                  rw [hv] at e72
                  have HC : Hid (Calls Tryd.prog 15 #[.int .u8 3, .slice s0 s1 s2] wR fun e w' => e = .returned (.agg #[.int .u8 3, .string ⟨#[]⟩, .slice none 0 0, .slice s0 s1 s2]) ∧ IsFv w' (.agg #[.int .u8 3, .string ⟨#[]⟩, .slice none 0 0, .slice s0 s1 s2]) (.mk 3 ⟨#[]⟩ [] [.mk 10 ⟨#[]⟩ [] [.mk 3 ⟨#[]⟩ [] [ff]]]) ∧ Below wR.heap.size wR w') := Lib.hid (joinv (op := 3) (by omega) ⟨s0, s1, s2, rfl, h2⟩)
                  go_simp
                  go_at_call 15
                  with_reducible refine HC.out.mono ?_
                  rintro e w' ⟨rfl, hfv, hB8⟩
                  simp only
                  refine hK _ _ ?_
                  exact ⟨below_tr hI hB8, fun h => (f0 h).below hB8, fun h => (f1 h).below hB8, fun h => (f2 h).below hB8, fun h => (f3 h).below hB8, fun h => (f4 h).below hB8, fun h => (f5 h).below hB8, fun h => (f6 h).below hB8, fun _ => hfv, fun h => f8 h, fun h => f9 h, fun h => f10 h, fun h => f11 h, fun h => f12 h, fun h => f13 h⟩
                · intro L x a wR K hL hd hf hx hΦ hK
                  obtain ⟨hI, f0, f1, f2, f3, f4, f5, f6, f7, f8, f9, f10, f11, f12, f13⟩ := hΦ
                  refine ⟨fun _ => ?_, fun h => absurd h (by rw [Go.RE.wanted_none rfl]; decide)⟩
                  have d0 := f0 (hd 0 (by kernel_rfl))
                  have e66 : a.tmps[66]? = some (x 66) := hx 0 _ 66 rfl rfl (hd 0 (by kernel_rfl))
                  have d7 := f7 (hd 7 (by kernel_rfl))
                  have e73 : a.tmps[73]? = some (x 73) := hx 7 _ 73 rfl rfl (hd 7 (by kernel_rfl))
                  clear hf hx hd
                  have hc := at_valv d0 d7 (HRW.out.below hI) HA4.out.1 HMO.out HA4.out.2.1 HA4.out.2.2.1 HA4.out.2.2.2
                  obtain ⟨mk, mz, lp, r0, r1, r2, t0, t1, t2, u0, u1, u2, b0, b1, b2, hv, _, _, _, _⟩ := d0
                  obtain ⟨o', nm', a0', a1', a2', s0', s1', s2', hv', _, _, _⟩ := d7
                  rw [hv] at e66
                  rw [hv'] at e73
                  rw [hv, hv'] at hc
                  have HC : Hid (Calls Tryd.prog 16 _ _ fun e w' => e = .returned (.tuple #[.int .i64 (vd : Int), .int .i64 0]) ∧ _) := Lib.hid hc
                  clear hc
                  go_simp
                  go_at_call 16
                  with_reducible refine HC.out.mono ?_
                  rintro e w' ⟨rfl, hB8⟩
                  simp only
                  refine hK _ _ ?_
                  exact ⟨below_tr hI hB8, fun h => (f0 h).below hB8, fun h => (f1 h).below hB8, fun h => (f2 h).below hB8, fun h => (f3 h).below hB8, fun h => (f4 h).below hB8, fun h => (f5 h).below hB8, fun h => (f6 h).below hB8, fun h => (f7 h).below hB8, fun _ => rfl, fun h => f9 h, fun h => f10 h, fun h => f11 h, fun h => f12 h, fun h => f13 h⟩
                · intro L x a wR K hL hd hf hx hΦ hK
                  obtain ⟨hI, f0, f1, f2, f3, f4, f5, f6, f7, f8, f9, f10, f11, f12, f13⟩ := hΦ
                  refine ⟨fun _ => ?_, fun h => absurd h (by rw [Go.RE.wanted_none rfl]; decide)⟩
                  have d8 := f8 (hd 8 (by kernel_rfl))
                  have e74 : a.tmps[74]? = some (x 74) := hx 8 _ 74 rfl rfl (hd 8 (by kernel_rfl))
                  rw [d8] at e74
                  clear hf hx hd
                  go_simp
                  refine hK _ _ ?_
                  exact ⟨hI, fun h => f0 h, fun h => f1 h, fun h => f2 h, fun h => f3 h, fun h => f4 h, fun h => f5 h, fun h => f6 h, fun h => f7 h, fun h => f8 h, fun _ => rfl, fun h => f10 h, fun h => f11 h, fun h => f12 h, fun h => f13 h⟩
                · intro L x a wR K hL hd hf hx hΦ hK
                  obtain ⟨hI, f0, f1, f2, f3, f4, f5, f6, f7, f8, f9, f10, f11, f12, f13⟩ := hΦ
                  refine ⟨fun _ => ?_, fun h => absurd h (by rw [Go.RE.wanted_none rfl]; decide)⟩
                  have d9 := f9 (hd 9 (by kernel_rfl))
                  have e65 : a.tmps[65]? = some (x 65) := hx 9 _ 65 rfl rfl (hd 9 (by kernel_rfl))
                  rw [d9] at e65
                  clear hf hx hd
                  go_simp
                  refine hK _ _ ?_
                  exact ⟨hI, fun h => f0 h, fun h => f1 h, fun h => f2 h, fun h => f3 h, fun h => f4 h, fun h => f5 h, fun h => f6 h, fun h => f7 h, fun h => f8 h, fun h => f9 h, fun _ => rfl, fun h => f11 h, fun h => f12 h, fun h => f13 h⟩
                · intro L x a wR K hL hd hf hx hΦ hK
                  obtain ⟨hI, f0, f1, f2, f3, f4, f5, f6, f7, f8, f9, f10, f11, f12, f13⟩ := hΦ
                  refine ⟨fun _ => ?_, fun h => absurd h (by rw [Go.RE.wanted_none rfl]; decide)⟩
                  have d9 := f9 (hd 9 (by kernel_rfl))
                  have e65 : a.tmps[65]? = some (x 65) := hx 9 _ 65 rfl rfl (hd 9 (by kernel_rfl))
                  rw [d9] at e65
                  clear hf hx hd
                  go_simp
                  refine hK _ _ ?_
                  exact ⟨hI, fun h => f0 h, fun h => f1 h, fun h => f2 h, fun h => f3 h, fun h => f4 h, fun h => f5 h, fun h => f6 h, fun h => f7 h, fun h => f8 h, fun h => f9 h, fun h => f10 h, fun _ => rfl, fun h => f12 h, fun h => f13 h⟩
                · intro L x a wR K hL hd hf hx hΦ hK
                  obtain ⟨hI, f0, f1, f2, f3, f4, f5, f6, f7, f8, f9, f10, f11, f12, f13⟩ := hΦ
                  refine ⟨fun _ => ?_, fun h => absurd h (by rw [Go.RE.wanted_none rfl]; decide)⟩
                  have d10 := f10 (hd 10 (by kernel_rfl))
                  have e75 : a.tmps[75]? = some (x 75) := hx 10 _ 75 rfl rfl (hd 10 (by kernel_rfl))
                  rw [d10] at e75
                  clear hf hx hd
                  go_simp
                  refine hK _ _ ?_
                  exact ⟨hI, fun h => f0 h, fun h => f1 h, fun h => f2 h, fun h => f3 h, fun h => f4 h, fun h => f5 h, fun h => f6 h, fun h => f7 h, fun h => f8 h, fun h => f9 h, fun h => f10 h, fun h => f11 h, fun _ => rfl, fun h => f13 h⟩
                · intro L x a wR K hL hd hf hx hΦ hK
                  obtain ⟨hI, f0, f1, f2, f3, f4, f5, f6, f7, f8, f9, f10, f11, f12, f13⟩ := hΦ
                  refine ⟨fun _ => ?_, fun h => absurd h (by rw [Go.RE.wanted_none rfl]; decide)⟩
                  have d11 := f11 (hd 11 (by kernel_rfl))
                  have e76 : a.tmps[76]? = some (x 76) := hx 11 _ 76 rfl rfl (hd 11 (by kernel_rfl))
                  rw [d11] at e76
                  clear hf hx hd
                  go_simp
                  refine hK _ _ ?_
                  exact ⟨hI, fun h => f0 h, fun h => f1 h, fun h => f2 h, fun h => f3 h, fun h => f4 h, fun h => f5 h, fun h => f6 h, fun h => f7 h, fun h => f8 h, fun h => f9 h, fun h => f10 h, fun h => f11 h, fun h => f12 h, fun _ => rfl⟩
                · rintro x W ⟨hI, f0, f1, f2, f3, f4, f5, f6, f7, f8, f9, f10, f11, f12, f13⟩
                  simp only [Exit.then]
                  go_step
                  go_meet
                  exact ⟨f12 rfl, f13 rfl, hI⟩
              case rest =>
                obtain ⟨rfl, rfl, hB⟩ := hcut
                replace HM9 := Lib.hid (HM9.out.below hB)
                replace HF10 := Lib.hid (HF10.out.below hB)
                replace HF11 := Lib.hid (HF11.out.below hB)
                replace HRW := Lib.hid (HRW.out.below hB)
                replace HBL := Lib.hid (below_tr HBL.out hB)
                obtain ⟨q6, hq6⟩ : ∃ q : World, q = wc := ⟨_, rfl⟩
                subst hq6
                clear hB
                go_upto_region 10 with (fail)
                go_cut [21, 22] from 77 to 97 (fun v21 v22 wx => v21 = .int .i64 (ev : Int) ∧ v22 = .int .i64 0 ∧ Below q6.heap.size q6 wx)
                case first =>
                  refine Go.RE.wp_region_eachg [78, 79, 80, 81, 82, 83, 84, 85, 86, 87, 88, 89, 90, 91, 92, 93, 94, 95, 77, 96, 97, 21, 22] (fun L x W => (Below q6.heap.size q6 W) ∧ (L 0 = true → IsMv W (x 78) (mdl 4 n rl [u4, u5, u6])) ∧ (L 1 = true → IsFv W (x 79) (ff)) ∧ (L 2 = true → IsFv W (x 80) (gg)) ∧ (L 3 = true → IsFsV W (x 81) [ff, gg]) ∧ (L 4 = true → IsFv W (x 82) (.mk 6 ⟨#[]⟩ [] [ff, gg])) ∧ (L 5 = true → IsFsV W (x 83) [.mk 6 ⟨#[]⟩ [] [ff, gg]]) ∧ (L 6 = true → IsFv W (x 84) (.mk 10 ⟨#[]⟩ [] [.mk 6 ⟨#[]⟩ [] [ff, gg]])) ∧ (L 7 = true → IsFv W (x 85) (ff)) ∧ (L 8 = true → IsFsV W (x 86) [ff]) ∧ (L 9 = true → IsFv W (x 87) (.mk 10 ⟨#[]⟩ [] [ff])) ∧ (L 10 = true → IsFv W (x 88) (gg)) ∧ (L 11 = true → IsFsV W (x 89) [gg]) ∧ (L 12 = true → IsFv W (x 90) (.mk 10 ⟨#[]⟩ [] [gg])) ∧ (L 13 = true → IsFsV W (x 91) [.mk 10 ⟨#[]⟩ [] [ff], .mk 10 ⟨#[]⟩ [] [gg]]) ∧ (L 14 = true → IsFv W (x 92) (.mk 6 ⟨#[]⟩ [] [.mk 10 ⟨#[]⟩ [] [ff], .mk 10 ⟨#[]⟩ [] [gg]])) ∧ (L 15 = true → IsFsV W (x 93) [.mk 10 ⟨#[]⟩ [] [.mk 6 ⟨#[]⟩ [] [ff, gg]], .mk 6 ⟨#[]⟩ [] [.mk 10 ⟨#[]⟩ [] [ff], .mk 10 ⟨#[]⟩ [] [gg]]]) ∧ (L 16 = true → IsFv W (x 94) (.mk 6 ⟨#[]⟩ [] [.mk 10 ⟨#[]⟩ [] [.mk 6 ⟨#[]⟩ [] [ff, gg]], .mk 6 ⟨#[]⟩ [] [.mk 10 ⟨#[]⟩ [] [ff], .mk 10 ⟨#[]⟩ [] [gg]]])) ∧ (L 17 = true → x 95 = .tuple #[.int .i64 (ev : Int), .int .i64 0]) ∧ (L 18 = true → x 77 = .tuple #[.int .i64 (ev : Int), .int .i64 0]) ∧ (L 19 = true → x 96 = .int .i64 (ev : Int)) ∧ (L 20 = true → x 97 = .int .i64 0) ∧ (L 21 = true → x 21 = .int .i64 (ev : Int)) ∧ (L 22 = true → x 22 = .int .i64 0)) (by kernel_rfl) (by kernel_rfl) (by kernel_rfl) ?_ ((Go.RE.Each.cons ?_ (Go.RE.Each.cons ?_ (Go.RE.Each.cons ?_ (Go.RE.Each.cons ?_ (Go.RE.Each.cons ?_ (Go.RE.Each.cons ?_ (Go.RE.Each.cons ?_ (Go.RE.Each.cons ?_ (Go.RE.Each.cons ?_ (Go.RE.Each.cons ?_ (Go.RE.Each.cons ?_ (Go.RE.Each.cons ?_ (Go.RE.Each.cons ?_ (Go.RE.Each.cons ?_ (Go.RE.Each.cons ?_ (Go.RE.Each.cons ?_ (Go.RE.Each.cons ?_ (Go.RE.Each.cons ?_ (Go.RE.Each.cons ?_ (Go.RE.Each.cons ?_ (Go.RE.Each.cons ?_ (Go.RE.Each.cons ?_ (Go.RE.Each.cons ?_ Go.RE.Each.nil)))))))))))))))))))))))) ?_
                  · exact fun x => ⟨bl_dr (Below.refl _ _), fun h => (by cases h), fun h => (by cases h), fun h => (by cases h), fun h => (by cases h), fun h => (by cases h), fun h => (by cases h), fun h => (by cases h), fun h => (by cases h), fun h => (by cases h), fun h => (by cases h), fun h => (by cases h), fun h => (by cases h), fun h => (by cases h), fun h => (by cases h), fun h => (by cases h), fun h => (by cases h), fun h => (by cases h), fun h => (by cases h), fun h => (by cases h), fun h => (by cases h), fun h => (by cases h), fun h => (by cases h), fun h => (by cases h)⟩
                  · intro L x a wR K hL hd hf hx hΦ hK
                    obtain ⟨hI, f0, f1, f2, f3, f4, f5, f6, f7, f8, f9, f10, f11, f12, f13, f14, f15, f16, f17, f18, f19, f20, f21, f22⟩ := hΦ
                    refine ⟨fun _ => ?_, fun h => absurd h (by rw [Go.RE.wanted_none rfl]; decide)⟩
                    have e9 : a.tmps[9]? = some (.pointer (some ⟨B9, 0, none⟩)) := hf 9 (of_decide_eq_true (by kernel_rfl))
                    clear hf hx hd
                    obtain ⟨mk, mz, lp, r0, r1, r2, t0, t1, t2, u0, u1, u2, b0, b1, b2, hb, h2, h3, h5, h4⟩ := (HM9.out.below hI)
                    have cc := HK.blk_cell hb
                    have c0 := cc 0
                    have c1 := cc 1
                    have c2 := cc 2
                    have c3 := cc 3
                    have c4 := cc 4
                    have c5 := cc 5
                    have c6 := cc 6
                    clear cc
                    go_simp
                    refine hK _ _ ?_
                    exact ⟨hI, fun _ => ⟨mk, mz, lp, r0, r1, r2, t0, t1, t2, u0, u1, u2, b0, b1, b2, rfl, h2, h3, h5, h4⟩, fun h => f1 h, fun h => f2 h, fun h => f3 h, fun h => f4 h, fun h => f5 h, fun h => f6 h, fun h => f7 h, fun h => f8 h, fun h => f9 h, fun h => f10 h, fun h => f11 h, fun h => f12 h, fun h => f13 h, fun h => f14 h, fun h => f15 h, fun h => f16 h, fun h => f17 h, fun h => f18 h, fun h => f19 h, fun h => f20 h, fun h => f21 h, fun h => f22 h⟩
                  · intro L x a wR K hL hd hf hx hΦ hK
                    obtain ⟨hI, f0, f1, f2, f3, f4, f5, f6, f7, f8, f9, f10, f11, f12, f13, f14, f15, f16, f17, f18, f19, f20, f21, f22⟩ := hΦ
                    refine ⟨fun _ => ?_, fun h => absurd h (by rw [Go.RE.wanted_none rfl]; decide)⟩
                    have e10 : a.tmps[10]? = some (.pointer (some ⟨B10, 0, none⟩)) := hf 10 (of_decide_eq_true (by kernel_rfl))
                    clear hf hx hd
                    obtain ⟨o, nm, a0, a1, a2, s0, s1, s2, hb, h2, h3, h4⟩ := (HF10.out.below hI)
                    have cc := HK.blk_cell hb
                    have c0 := cc 0
                    have c1 := cc 1
                    have c2 := cc 2
                    have c3 := cc 3
                    clear cc
                    go_simp
                    refine hK _ _ ?_
                    exact ⟨hI, fun h => f0 h, fun _ => ⟨o, nm, a0, a1, a2, s0, s1, s2, rfl, h2, h3, h4⟩, fun h => f2 h, fun h => f3 h, fun h => f4 h, fun h => f5 h, fun h => f6 h, fun h => f7 h, fun h => f8 h, fun h => f9 h, fun h => f10 h, fun h => f11 h, fun h => f12 h, fun h => f13 h, fun h => f14 h, fun h => f15 h, fun h => f16 h, fun h => f17 h, fun h => f18 h, fun h => f19 h, fun h => f20 h, fun h => f21 h, fun h => f22 h⟩
                  · intro L x a wR K hL hd hf hx hΦ hK
                    obtain ⟨hI, f0, f1, f2, f3, f4, f5, f6, f7, f8, f9, f10, f11, f12, f13, f14, f15, f16, f17, f18, f19, f20, f21, f22⟩ := hΦ
                    refine ⟨fun _ => ?_, fun h => absurd h (by rw [Go.RE.wanted_none rfl]; decide)⟩
                    have e11 : a.tmps[11]? = some (.pointer (some ⟨B11, 0, none⟩)) := hf 11 (of_decide_eq_true (by kernel_rfl))
                    clear hf hx hd
                    obtain ⟨o, nm, a0, a1, a2, s0, s1, s2, hb, h2, h3, h4⟩ := (HF11.out.below hI)
                    have cc := HK.blk_cell hb
                    have c0 := cc 0
                    have c1 := cc 1
                    have c2 := cc 2
                    have c3 := cc 3
                    clear cc
                    go_simp
                    refine hK _ _ ?_
                    exact ⟨hI, fun h => f0 h, fun h => f1 h, fun _ => ⟨o, nm, a0, a1, a2, s0, s1, s2, rfl, h2, h3, h4⟩, fun h => f3 h, fun h => f4 h, fun h => f5 h, fun h => f6 h, fun h => f7 h, fun h => f8 h, fun h => f9 h, fun h => f10 h, fun h => f11 h, fun h => f12 h, fun h => f13 h, fun h => f14 h, fun h => f15 h, fun h => f16 h, fun h => f17 h, fun h => f18 h, fun h => f19 h, fun h => f20 h, fun h => f21 h, fun h => f22 h⟩
                  · intro L x a wR K hL hd hf hx hΦ hK
                    obtain ⟨hI, f0, f1, f2, f3, f4, f5, f6, f7, f8, f9, f10, f11, f12, f13, f14, f15, f16, f17, f18, f19, f20, f21, f22⟩ := hΦ
                    refine ⟨fun _ => ?_, fun h => absurd h (by rw [Go.RE.wanted_none rfl]; decide)⟩
                    have d1 := f1 (hd 1 (by kernel_rfl))
                    have e79 : a.tmps[79]? = some (x 79) := hx 1 _ 79 rfl rfl (hd 1 (by kernel_rfl))
                    have d2 := f2 (hd 2 (by kernel_rfl))
                    have e80 : a.tmps[80]? = some (x 80) := hx 2 _ 80 rfl rfl (hd 2 (by kernel_rfl))
                    clear hf hx hd
                    obtain ⟨o, nm, a0, a1, a2, s0, s1, s2, hv, h2, h3, h4⟩ := d1
                    rw [hv] at e79
                    obtain ⟨o', nm', a0', a1', a2', s0', s1', s2', hv', h2', h3', h4'⟩ := d2
                    rw [hv'] at e80
                    go_simp
                    refine hK _ _ ?_
                    exact ⟨below_tr hI (below_alloc _ _), fun h => (f0 h).below (below_alloc wR _), fun h => (f1 h).below (below_alloc wR _), fun h => (f2 h).below (below_alloc wR _), fun _ => build2 h2 h3 h4 h2' h3' h4', fun h => (f4 h).below (below_alloc wR _), fun h => (f5 h).below (below_alloc wR _), fun h => (f6 h).below (below_alloc wR _), fun h => (f7 h).below (below_alloc wR _), fun h => (f8 h).below (below_alloc wR _), fun h => (f9 h).below (below_alloc wR _), fun h => (f10 h).below (below_alloc wR _), fun h => (f11 h).below (below_alloc wR _), fun h => (f12 h).below (below_alloc wR _), fun h => (f13 h).below (below_alloc wR _), fun h => (f14 h).below (below_alloc wR _), fun h => (f15 h).below (below_alloc wR _), fun h => (f16 h).below (below_alloc wR _), fun h => f17 h, fun h => f18 h, fun h => f19 h, fun h => f20 h, fun h => f21 h, fun h => f22 h⟩
                  · intro L x a wR K hL hd hf hx hΦ hK
                    obtain ⟨hI, f0, f1, f2, f3, f4, f5, f6, f7, f8, f9, f10, f11, f12, f13, f14, f15, f16, f17, f18, f19, f20, f21, f22⟩ := hΦ
                    refine ⟨fun _ => ?_, fun h => absurd h (by rw [Go.RE.wanted_none rfl]; decide)⟩
                    have d3 := f3 (hd 3 (by kernel_rfl))
                    have e81 : a.tmps[81]? = some (x 81) := hx 3 _ 81 rfl rfl (hd 3 (by kernel_rfl))
                    clear hf hx hd
                    obtain ⟨s0, s1, s2, hv, h2⟩ := d3
                    rw [hv] at e81
                    have HC : Hid (Calls Tryd.prog 15 #[.int .u8 6, .slice s0 s1 s2] wR fun e w' => e = .returned (.agg #[.int .u8 6, .string ⟨#[]⟩, .slice none 0 0, .slice s0 s1 s2]) ∧ IsFv w' (.agg #[.int .u8 6, .string ⟨#[]⟩, .slice none 0 0, .slice s0 s1 s2]) (.mk 6 ⟨#[]⟩ [] [ff, gg]) ∧ Below wR.heap.size wR w') := Lib.hid (joinv (op := 6) (by omega) ⟨s0, s1, s2, rfl, h2⟩)
                    go_simp
                    go_at_call 15
                    with_reducible refine HC.out.mono ?_
                    rintro e w' ⟨rfl, hfv, hB8⟩
                    simp only
                    refine hK _ _ ?_
                    exact ⟨below_tr hI hB8, fun h => (f0 h).below hB8, fun h => (f1 h).below hB8, fun h => (f2 h).below hB8, fun h => (f3 h).below hB8, fun _ => hfv, fun h => (f5 h).below hB8, fun h => (f6 h).below hB8, fun h => (f7 h).below hB8, fun h => (f8 h).below hB8, fun h => (f9 h).below hB8, fun h => (f10 h).below hB8, fun h => (f11 h).below hB8, fun h => (f12 h).below hB8, fun h => (f13 h).below hB8, fun h => (f14 h).below hB8, fun h => (f15 h).below hB8, fun h => (f16 h).below hB8, fun h => f17 h, fun h => f18 h, fun h => f19 h, fun h => f20 h, fun h => f21 h, fun h => f22 h⟩
                  · intro L x a wR K hL hd hf hx hΦ hK
                    obtain ⟨hI, f0, f1, f2, f3, f4, f5, f6, f7, f8, f9, f10, f11, f12, f13, f14, f15, f16, f17, f18, f19, f20, f21, f22⟩ := hΦ
                    refine ⟨fun _ => ?_, fun h => absurd h (by rw [Go.RE.wanted_none rfl]; decide)⟩
                    have d4 := f4 (hd 4 (by kernel_rfl))
                    have e82 : a.tmps[82]? = some (x 82) := hx 4 _ 82 rfl rfl (hd 4 (by kernel_rfl))
                    clear hf hx hd
                    obtain ⟨o, nm, a0, a1, a2, s0, s1, s2, hv, h2, h3, h4⟩ := d4
                    rw [hv] at e82
                    go_simp
                    refine hK _ _ ?_
                    exact ⟨below_tr hI (below_alloc _ _), fun h => (f0 h).below (below_alloc wR _), fun h => (f1 h).below (below_alloc wR _), fun h => (f2 h).below (below_alloc wR _), fun h => (f3 h).below (below_alloc wR _), fun h => (f4 h).below (below_alloc wR _), fun _ => build1 h2 h3 h4, fun h => (f6 h).below (below_alloc wR _), fun h => (f7 h).below (below_alloc wR _), fun h => (f8 h).below (below_alloc wR _), fun h => (f9 h).below (below_alloc wR _), fun h => (f10 h).below (below_alloc wR _), fun h => (f11 h).below (below_alloc wR _), fun h => (f12 h).below (below_alloc wR _), fun h => (f13 h).below (below_alloc wR _), fun h => (f14 h).below (below_alloc wR _), fun h => (f15 h).below (below_alloc wR _), fun h => (f16 h).below (below_alloc wR _), fun h => f17 h, fun h => f18 h, fun h => f19 h, fun h => f20 h, fun h => f21 h, fun h => f22 h⟩
                  · intro L x a wR K hL hd hf hx hΦ hK
                    obtain ⟨hI, f0, f1, f2, f3, f4, f5, f6, f7, f8, f9, f10, f11, f12, f13, f14, f15, f16, f17, f18, f19, f20, f21, f22⟩ := hΦ
                    refine ⟨fun _ => ?_, fun h => absurd h (by rw [Go.RE.wanted_none rfl]; decide)⟩
                    have d5 := f5 (hd 5 (by kernel_rfl))
                    have e83 : a.tmps[83]? = some (x 83) := hx 5 _ 83 rfl rfl (hd 5 (by kernel_rfl))
                    clear hf hx hd
                    obtain ⟨s0, s1, s2, hv, h2⟩ := d5
                    rw [hv] at e83
                    have HC : Hid (Calls Tryd.prog 15 #[.int .u8 10, .slice s0 s1 s2] wR fun e w' => e = .returned (.agg #[.int .u8 10, .string ⟨#[]⟩, .slice none 0 0, .slice s0 s1 s2]) ∧ IsFv w' (.agg #[.int .u8 10, .string ⟨#[]⟩, .slice none 0 0, .slice s0 s1 s2]) (.mk 10 ⟨#[]⟩ [] [.mk 6 ⟨#[]⟩ [] [ff, gg]]) ∧ Below wR.heap.size wR w') := Lib.hid (joinv (op := 10) (by omega) ⟨s0, s1, s2, rfl, h2⟩)
                    go_simp
                    go_at_call 15
                    with_reducible refine HC.out.mono ?_
                    rintro e w' ⟨rfl, hfv, hB8⟩
                    simp only
                    refine hK _ _ ?_
                    exact ⟨below_tr hI hB8, fun h => (f0 h).below hB8, fun h => (f1 h).below hB8, fun h => (f2 h).below hB8, fun h => (f3 h).below hB8, fun h => (f4 h).below hB8, fun h => (f5 h).below hB8, fun _ => hfv, fun h => (f7 h).below hB8, fun h => (f8 h).below hB8, fun h => (f9 h).below hB8, fun h => (f10 h).below hB8, fun h => (f11 h).below hB8, fun h => (f12 h).below hB8, fun h => (f13 h).below hB8, fun h => (f14 h).below hB8, fun h => (f15 h).below hB8, fun h => (f16 h).below hB8, fun h => f17 h, fun h => f18 h, fun h => f19 h, fun h => f20 h, fun h => f21 h, fun h => f22 h⟩
                  · intro L x a wR K hL hd hf hx hΦ hK
                    obtain ⟨hI, f0, f1, f2, f3, f4, f5, f6, f7, f8, f9, f10, f11, f12, f13, f14, f15, f16, f17, f18, f19, f20, f21, f22⟩ := hΦ
                    refine ⟨fun _ => ?_, fun h => absurd h (by rw [Go.RE.wanted_none rfl]; decide)⟩
                    have e10 : a.tmps[10]? = some (.pointer (some ⟨B10, 0, none⟩)) := hf 10 (of_decide_eq_true (by kernel_rfl))
                    clear hf hx hd
                    obtain ⟨o, nm, a0, a1, a2, s0, s1, s2, hb, h2, h3, h4⟩ := (HF10.out.below hI)
                    have cc := HK.blk_cell hb
                    have c0 := cc 0
                    have c1 := cc 1
                    have c2 := cc 2
                    have c3 := cc 3
                    clear cc
                    go_simp
                    refine hK _ _ ?_
                    exact ⟨hI, fun h => f0 h, fun h => f1 h, fun h => f2 h, fun h => f3 h, fun h => f4 h, fun h => f5 h, fun h => f6 h, fun _ => ⟨o, nm, a0, a1, a2, s0, s1, s2, rfl, h2, h3, h4⟩, fun h => f8 h, fun h => f9 h, fun h => f10 h, fun h => f11 h, fun h => f12 h, fun h => f13 h, fun h => f14 h, fun h => f15 h, fun h => f16 h, fun h => f17 h, fun h => f18 h, fun h => f19 h, fun h => f20 h, fun h => f21 h, fun h => f22 h⟩
                  · intro L x a wR K hL hd hf hx hΦ hK
                    obtain ⟨hI, f0, f1, f2, f3, f4, f5, f6, f7, f8, f9, f10, f11, f12, f13, f14, f15, f16, f17, f18, f19, f20, f21, f22⟩ := hΦ
                    refine ⟨fun _ => ?_, fun h => absurd h (by rw [Go.RE.wanted_none rfl]; decide)⟩
                    have d7 := f7 (hd 7 (by kernel_rfl))
                    have e85 : a.tmps[85]? = some (x 85) := hx 7 _ 85 rfl rfl (hd 7 (by kernel_rfl))
                    clear hf hx hd
                    obtain ⟨o, nm, a0, a1, a2, s0, s1, s2, hv, h2, h3, h4⟩ := d7
                    rw [hv] at e85
                    go_simp
                    refine hK _ _ ?_
                    exact ⟨below_tr hI (below_alloc _ _), fun h => (f0 h).below (below_alloc wR _), fun h => (f1 h).below (below_alloc wR _), fun h => (f2 h).below (below_alloc wR _), fun h => (f3 h).below (below_alloc wR _), fun h => (f4 h).below (below_alloc wR _), fun h => (f5 h).below (below_alloc wR _), fun h => (f6 h).below (below_alloc wR _), fun h => (f7 h).below (below_alloc wR _), fun _ => build1 h2 h3 h4, fun h => (f9 h).below (below_alloc wR _), fun h => (f10 h).below (below_alloc wR _), fun h => (f11 h).below (below_alloc wR _), fun h => (f12 h).below (below_alloc wR _), fun h => (f13 h).below (below_alloc wR _), fun h => (f14 h).below (below_alloc wR _), fun h => (f15 h).below (below_alloc wR _), fun h => (f16 h).below (below_alloc wR _), fun h => f17 h, fun h => f18 h, fun h => f19 h, fun h => f20 h, fun h => f21 h, fun h => f22 h⟩
                  · intro L x a wR K hL hd hf hx hΦ hK
                    obtain ⟨hI, f0, f1, f2, f3, f4, f5, f6, f7, f8, f9, f10, f11, f12, f13, f14, f15, f16, f17, f18, f19, f20, f21, f22⟩ := hΦ
                    refine ⟨fun _ => ?_, fun h => absurd h (by rw [Go.RE.wanted_none rfl]; decide)⟩
                    have d8 := f8 (hd 8 (by kernel_rfl))
                    have e86 : a.tmps[86]? = some (x 86) := hx 8 _ 86 rfl rfl (hd 8 (by kernel_rfl))
                    clear hf hx hd
                    obtain ⟨s0, s1, s2, hv, h2⟩ := d8
                    rw [hv] at e86
                    have HC : Hid (Calls Tryd.prog 15 #[.int .u8 10, .slice s0 s1 s2] wR fun e w' => e = .returned (.agg #[.int .u8 10, .string ⟨#[]⟩, .slice none 0 0, .slice s0 s1 s2]) ∧ IsFv w' (.agg #[.int .u8 10, .string ⟨#[]⟩, .slice none 0 0, .slice s0 s1 s2]) (.mk 10 ⟨#[]⟩ [] [ff]) ∧ Below wR.heap.size wR w') := Lib.hid (joinv (op := 10) (by omega) ⟨s0, s1, s2, rfl, h2⟩)
                    go_simp
                    go_at_call 15
                    with_reducible refine HC.out.mono ?_
                    rintro e w' ⟨rfl, hfv, hB8⟩
                    simp only
                    refine hK _ _ ?_
                    exact ⟨below_tr hI hB8, fun h => (f0 h).below hB8, fun h => (f1 h).below hB8, fun h => (f2 h).below hB8, fun h => (f3 h).below hB8, fun h => (f4 h).below hB8, fun h => (f5 h).below hB8, fun h => (f6 h).below hB8, fun h => (f7 h).below hB8, fun h => (f8 h).below hB8, fun _ => hfv, fun h => (f10 h).below hB8, fun h => (f11 h).below hB8, fun h => (f12 h).below hB8, fun h => (f13 h).below hB8, fun h => (f14 h).below hB8, fun h => (f15 h).below hB8, fun h => (f16 h).below hB8, fun h => f17 h, fun h => f18 h, fun h => f19 h, fun h => f20 h, fun h => f21 h, fun h => f22 h⟩
                  · intro L x a wR K hL hd hf hx hΦ hK
                    obtain ⟨hI, f0, f1, f2, f3, f4, f5, f6, f7, f8, f9, f10, f11, f12, f13, f14, f15, f16, f17, f18, f19, f20, f21, f22⟩ := hΦ
                    refine ⟨fun _ => ?_, fun h => absurd h (by rw [Go.RE.wanted_none rfl]; decide)⟩
                    have e11 : a.tmps[11]? = some (.pointer (some ⟨B11, 0, none⟩)) := hf 11 (of_decide_eq_true (by kernel_rfl))
                    clear hf hx hd
                    obtain ⟨o, nm, a0, a1, a2, s0, s1, s2, hb, h2, h3, h4⟩ := (HF11.out.below hI)
                    have cc := HK.blk_cell hb
                    have c0 := cc 0
                    have c1 := cc 1
                    have c2 := cc 2
                    have c3 := cc 3
                    clear cc
                    go_simp
                    refine hK _ _ ?_
                    exact ⟨hI, fun h => f0 h, fun h => f1 h, fun h => f2 h, fun h => f3 h, fun h => f4 h, fun h => f5 h, fun h => f6 h, fun h => f7 h, fun h => f8 h, fun h => f9 h, fun _ => ⟨o, nm, a0, a1, a2, s0, s1, s2, rfl, h2, h3, h4⟩, fun h => f11 h, fun h => f12 h, fun h => f13 h, fun h => f14 h, fun h => f15 h, fun h => f16 h, fun h => f17 h, fun h => f18 h, fun h => f19 h, fun h => f20 h, fun h => f21 h, fun h => f22 h⟩
                  · intro L x a wR K hL hd hf hx hΦ hK
                    obtain ⟨hI, f0, f1, f2, f3, f4, f5, f6, f7, f8, f9, f10, f11, f12, f13, f14, f15, f16, f17, f18, f19, f20, f21, f22⟩ := hΦ
                    refine ⟨fun _ => ?_, fun h => absurd h (by rw [Go.RE.wanted_none rfl]; decide)⟩
                    have d10 := f10 (hd 10 (by kernel_rfl))
                    have e88 : a.tmps[88]? = some (x 88) := hx 10 _ 88 rfl rfl (hd 10 (by kernel_rfl))
                    clear hf hx hd
                    obtain ⟨o, nm, a0, a1, a2, s0, s1, s2, hv, h2, h3, h4⟩ := d10
                    rw [hv] at e88
                    go_simp
                    refine hK _ _ ?_
                    exact ⟨below_tr hI (below_alloc _ _), fun h => (f0 h).below (below_alloc wR _), fun h => (f1 h).below (below_alloc wR _), fun h => (f2 h).below (below_alloc wR _), fun h => (f3 h).below (below_alloc wR _), fun h => (f4 h).below (below_alloc wR _), fun h => (f5 h).below (below_alloc wR _), fun h => (f6 h).below (below_alloc wR _), fun h => (f7 h).below (below_alloc wR _), fun h => (f8 h).below (below_alloc wR _), fun h => (f9 h).below (below_alloc wR _), fun h => (f10 h).below (below_alloc wR _), fun _ => build1 h2 h3 h4, fun h => (f12 h).below (below_alloc wR _), fun h => (f13 h).below (below_alloc wR _), fun h => (f14 h).below (below_alloc wR _), fun h => (f15 h).below (below_alloc wR _), fun h => (f16 h).below (below_alloc wR _), fun h => f17 h, fun h => f18 h, fun h => f19 h, fun h => f20 h, fun h => f21 h, fun h => f22 h⟩
                  · intro L x a wR K hL hd hf hx hΦ hK
                    obtain ⟨hI, f0, f1, f2, f3, f4, f5, f6, f7, f8, f9, f10, f11, f12, f13, f14, f15, f16, f17, f18, f19, f20, f21, f22⟩ := hΦ
                    refine ⟨fun _ => ?_, fun h => absurd h (by rw [Go.RE.wanted_none rfl]; decide)⟩
                    have d11 := f11 (hd 11 (by kernel_rfl))
                    have e89 : a.tmps[89]? = some (x 89) := hx 11 _ 89 rfl rfl (hd 11 (by kernel_rfl))
                    clear hf hx hd
                    obtain ⟨s0, s1, s2, hv, h2⟩ := d11
                    rw [hv] at e89
                    have HC : Hid (Calls Tryd.prog 15 #[.int .u8 10, .slice s0 s1 s2] wR fun e w' => e = .returned (.agg #[.int .u8 10, .string ⟨#[]⟩, .slice none 0 0, .slice s0 s1 s2]) ∧ IsFv w' (.agg #[.int .u8 10, .string ⟨#[]⟩, .slice none 0 0, .slice s0 s1 s2]) (.mk 10 ⟨#[]⟩ [] [gg]) ∧ Below wR.heap.size wR w') := Lib.hid (joinv (op := 10) (by omega) ⟨s0, s1, s2, rfl, h2⟩)
                    go_simp
                    go_at_call 15
                    with_reducible refine HC.out.mono ?_
                    rintro e w' ⟨rfl, hfv, hB8⟩
                    simp only
                    refine hK _ _ ?_
                    exact ⟨below_tr hI hB8, fun h => (f0 h).below hB8, fun h => (f1 h).below hB8, fun h => (f2 h).below hB8, fun h => (f3 h).below hB8, fun h => (f4 h).below hB8, fun h => (f5 h).below hB8, fun h => (f6 h).below hB8, fun h => (f7 h).below hB8, fun h => (f8 h).below hB8, fun h => (f9 h).below hB8, fun h => (f10 h).below hB8, fun h => (f11 h).below hB8, fun _ => hfv, fun h => (f13 h).below hB8, fun h => (f14 h).below hB8, fun h => (f15 h).below hB8, fun h => (f16 h).below hB8, fun h => f17 h, fun h => f18 h, fun h => f19 h, fun h => f20 h, fun h => f21 h, fun h => f22 h⟩
                  · intro L x a wR K hL hd hf hx hΦ hK
                    obtain ⟨hI, f0, f1, f2, f3, f4, f5, f6, f7, f8, f9, f10, f11, f12, f13, f14, f15, f16, f17, f18, f19, f20, f21, f22⟩ := hΦ
                    refine ⟨fun _ => ?_, fun h => absurd h (by rw [Go.RE.wanted_none rfl]; decide)⟩
                    have d9 := f9 (hd 9 (by kernel_rfl))
                    have e87 : a.tmps[87]? = some (x 87) := hx 9 _ 87 rfl rfl (hd 9 (by kernel_rfl))
                    have d12 := f12 (hd 12 (by kernel_rfl))
                    have e90 : a.tmps[90]? = some (x 90) := hx 12 _ 90 rfl rfl (hd 12 (by kernel_rfl))
                    clear hf hx hd
                    obtain ⟨o, nm, a0, a1, a2, s0, s1, s2, hv, h2, h3, h4⟩ := d9
                    rw [hv] at e87
                    obtain ⟨o', nm', a0', a1', a2', s0', s1', s2', hv', h2', h3', h4'⟩ := d12
                    rw [hv'] at e90
                    go_simp
                    refine hK _ _ ?_
                    exact ⟨below_tr hI (below_alloc _ _), fun h => (f0 h).below (below_alloc wR _), fun h => (f1 h).below (below_alloc wR _), fun h => (f2 h).below (below_alloc wR _), fun h => (f3 h).below (below_alloc wR _), fun h => (f4 h).below (below_alloc wR _), fun h => (f5 h).below (below_alloc wR _), fun h => (f6 h).below (below_alloc wR _), fun h => (f7 h).below (below_alloc wR _), fun h => (f8 h).below (below_alloc wR _), fun h => (f9 h).below (below_alloc wR _), fun h => (f10 h).below (below_alloc wR _), fun h => (f11 h).below (below_alloc wR _), fun h => (f12 h).below (below_alloc wR _), fun _ => build2 h2 h3 h4 h2' h3' h4', fun h => (f14 h).below (below_alloc wR _), fun h => (f15 h).below (below_alloc wR _), fun h => (f16 h).below (below_alloc wR _), fun h => f17 h, fun h => f18 h, fun h => f19 h, fun h => f20 h, fun h => f21 h, fun h => f22 h⟩
                  · intro L x a wR K hL hd hf hx hΦ hK
                    obtain ⟨hI, f0, f1, f2, f3, f4, f5, f6, f7, f8, f9, f10, f11, f12, f13, f14, f15, f16, f17, f18, f19, f20, f21, f22⟩ := hΦ
                    refine ⟨fun _ => ?_, fun h => absurd h (by rw [Go.RE.wanted_none rfl]; decide)⟩
                    have d13 := f13 (hd 13 (by kernel_rfl))
                    have e91 : a.tmps[91]? = some (x 91) := hx 13 _ 91 rfl rfl (hd 13 (by kernel_rfl))
                    clear hf hx hd
                    obtain ⟨s0, s1, s2, hv, h2⟩ := d13
                    rw [hv] at e91
                    have HC : Hid (Calls Tryd.prog 15 #[.int .u8 6, .slice s0 s1 s2] wR fun e w' => e = .returned (.agg #[.int .u8 6, .string ⟨#[]⟩, .slice none 0 0, .slice s0 s1 s2]) ∧ IsFv w' (.agg #[.int .u8 6, .string ⟨#[]⟩, .slice none 0 0, .slice s0 s1 s2]) (.mk 6 ⟨#[]⟩ [] [.mk 10 ⟨#[]⟩ [] [ff], .mk 10 ⟨#[]⟩ [] [gg]]) ∧ Below wR.heap.size wR w') := Lib.hid (joinv (op := 6) (by omega) ⟨s0, s1, s2, rfl, h2⟩)
                    go_simp
                    go_at_call 15
                    with_reducible refine HC.out.mono ?_
                    rintro e w' ⟨rfl, hfv, hB8⟩
                    simp only
                    refine hK _ _ ?_
                    exact ⟨below_tr hI hB8, fun h => (f0 h).below hB8, fun h => (f1 h).below hB8, fun h => (f2 h).below hB8, fun h => (f3 h).below hB8, fun h => (f4 h).below hB8, fun h => (f5 h).below hB8, fun h => (f6 h).below hB8, fun h => (f7 h).below hB8, fun h => (f8 h).below hB8, fun h => (f9 h).below hB8, fun h => (f10 h).below hB8, fun h => (f11 h).below hB8, fun h => (f12 h).below hB8, fun h => (f13 h).below hB8, fun _ => hfv, fun h => (f15 h).below hB8, fun h => (f16 h).below hB8, fun h => f17 h, fun h => f18 h, fun h => f19 h, fun h => f20 h, fun h => f21 h, fun h => f22 h⟩
                  · intro L x a wR K hL hd hf hx hΦ hK
                    obtain ⟨hI, f0, f1, f2, f3, f4, f5, f6, f7, f8, f9, f10, f11, f12, f13, f14, f15, f16, f17, f18, f19, f20, f21, f22⟩ := hΦ
                    refine ⟨fun _ => ?_, fun h => absurd h (by rw [Go.RE.wanted_none rfl]; decide)⟩
                    have d6 := f6 (hd 6 (by kernel_rfl))
                    have e84 : a.tmps[84]? = some (x 84) := hx 6 _ 84 rfl rfl (hd 6 (by kernel_rfl))
                    have d14 := f14 (hd 14 (by kernel_rfl))
                    have e92 : a.tmps[92]? = some (x 92) := hx 14 _ 92 rfl rfl (hd 14 (by kernel_rfl))
                    clear hf hx hd
                    obtain ⟨o, nm, a0, a1, a2, s0, s1, s2, hv, h2, h3, h4⟩ := d6
                    rw [hv] at e84
                    obtain ⟨o', nm', a0', a1', a2', s0', s1', s2', hv', h2', h3', h4'⟩ := d14
                    rw [hv'] at e92
                    go_simp
                    refine hK _ _ ?_
                    exact ⟨below_tr hI (below_alloc _ _), fun h => (f0 h).below (below_alloc wR _), fun h => (f1 h).below (below_alloc wR _), fun h => (f2 h).below (below_alloc wR _), fun h => (f3 h).below (below_alloc wR _), fun h => (f4 h).below (below_alloc wR _), fun h => (f5 h).below (below_alloc wR _), fun h => (f6 h).below (below_alloc wR _), fun h => (f7 h).below (below_alloc wR _), fun h => (f8 h).below (below_alloc wR _), fun h => (f9 h).below (below_alloc wR _), fun h => (f10 h).below (below_alloc wR _), fun h => (f11 h).below (below_alloc wR _), fun h => (f12 h).below (below_alloc wR _), fun h => (f13 h).below (below_alloc wR _), fun h => (f14 h).below (below_alloc wR _), fun _ => build2 h2 h3 h4 h2' h3' h4', fun h => (f16 h).below (below_alloc wR _), fun h => f17 h, fun h => f18 h, fun h => f19 h, fun h => f20 h, fun h => f21 h, fun h => f22 h⟩
                  · intro L x a wR K hL hd hf hx hΦ hK
                    obtain ⟨hI, f0, f1, f2, f3, f4, f5, f6, f7, f8, f9, f10, f11, f12, f13, f14, f15, f16, f17, f18, f19, f20, f21, f22⟩ := hΦ
                    refine ⟨fun _ => ?_, fun h => absurd h (by rw [Go.RE.wanted_none rfl]; decide)⟩
                    have d15 := f15 (hd 15 (by kernel_rfl))
                    have e93 : a.tmps[93]? = some (x 93) := hx 15 _ 93 rfl rfl (hd 15 (by kernel_rfl))
                    clear hf hx hd
                    obtain ⟨s0, s1, s2, hv, h2⟩ := d15
                    rw [hv] at e93
                    have HC : Hid (Calls Tryd.prog 15 #[.int .u8 6, .slice s0 s1 s2] wR fun e w' => e = .returned (.agg #[.int .u8 6, .string ⟨#[]⟩, .slice none 0 0, .slice s0 s1 s2]) ∧ IsFv w' (.agg #[.int .u8 6, .string ⟨#[]⟩, .slice none 0 0, .slice s0 s1 s2]) (.mk 6 ⟨#[]⟩ [] [.mk 10 ⟨#[]⟩ [] [.mk 6 ⟨#[]⟩ [] [ff, gg]], .mk 6 ⟨#[]⟩ [] [.mk 10 ⟨#[]⟩ [] [ff], .mk 10 ⟨#[]⟩ [] [gg]]]) ∧ Below wR.heap.size wR w') := Lib.hid (joinv (op := 6) (by omega) ⟨s0, s1, s2, rfl, h2⟩)
                    go_simp
                    go_at_call 15
                    with_reducible refine HC.out.mono ?_
                    rintro e w' ⟨rfl, hfv, hB8⟩
                    simp only
                    refine hK _ _ ?_
                    exact ⟨below_tr hI hB8, fun h => (f0 h).below hB8, fun h => (f1 h).below hB8, fun h => (f2 h).below hB8, fun h => (f3 h).below hB8, fun h => (f4 h).below hB8, fun h => (f5 h).below hB8, fun h => (f6 h).below hB8, fun h => (f7 h).below hB8, fun h => (f8 h).below hB8, fun h => (f9 h).below hB8, fun h => (f10 h).below hB8, fun h => (f11 h).below hB8, fun h => (f12 h).below hB8, fun h => (f13 h).below hB8, fun h => (f14 h).below hB8, fun h => (f15 h).below hB8, fun _ => hfv, fun h => f17 h, fun h => f18 h, fun h => f19 h, fun h => f20 h, fun h => f21 h, fun h => f22 h⟩
                  · intro L x a wR K hL hd hf hx hΦ hK
                    obtain ⟨hI, f0, f1, f2, f3, f4, f5, f6, f7, f8, f9, f10, f11, f12, f13, f14, f15, f16, f17, f18, f19, f20, f21, f22⟩ := hΦ
                    refine ⟨fun _ => ?_, fun h => absurd h (by rw [Go.RE.wanted_none rfl]; decide)⟩
                    have d0 := f0 (hd 0 (by kernel_rfl))
                    have e78 : a.tmps[78]? = some (x 78) := hx 0 _ 78 rfl rfl (hd 0 (by kernel_rfl))
                    have d16 := f16 (hd 16 (by kernel_rfl))
                    have e94 : a.tmps[94]? = some (x 94) := hx 16 _ 94 rfl rfl (hd 16 (by kernel_rfl))
                    clear hf hx hd
                    have hc := at_valv d0 d16 (HRW.out.below hI) HA5.out.1 HMO.out HA5.out.2.1 HA5.out.2.2.1 HA5.out.2.2.2
                    obtain ⟨mk, mz, lp, r0, r1, r2, t0, t1, t2, u0, u1, u2, b0, b1, b2, hv, _, _, _, _⟩ := d0
                    obtain ⟨o', nm', a0', a1', a2', s0', s1', s2', hv', _, _, _⟩ := d16
                    rw [hv] at e78
                    rw [hv'] at e94
                    rw [hv, hv'] at hc
                    have HC : Hid (Calls Tryd.prog 16 _ _ fun e w' => e = .returned (.tuple #[.int .i64 (ev : Int), .int .i64 0]) ∧ _) := Lib.hid hc
                    clear hc
                    go_simp
                    go_at_call 16
                    with_reducible refine HC.out.mono ?_
                    rintro e w' ⟨rfl, hB8⟩
                    simp only
                    refine hK _ _ ?_
                    exact ⟨below_tr hI hB8, fun h => (f0 h).below hB8, fun h => (f1 h).below hB8, fun h => (f2 h).below hB8, fun h => (f3 h).below hB8, fun h => (f4 h).below hB8, fun h => (f5 h).below hB8, fun h => (f6 h).below hB8, fun h => (f7 h).below hB8, fun h => (f8 h).below hB8, fun h => (f9 h).below hB8, fun h => (f10 h).below hB8, fun h => (f11 h).below hB8, fun h => (f12 h).below hB8, fun h => (f13 h).below hB8, fun h => (f14 h).below hB8, fun h => (f15 h).below hB8, fun h => (f16 h).below hB8, fun _ => rfl, fun h => f18 h, fun h => f19 h, fun h => f20 h, fun h => f21 h, fun h => f22 h⟩
                  · intro L x a wR K hL hd hf hx hΦ hK
                    obtain ⟨hI, f0, f1, f2, f3, f4, f5, f6, f7, f8, f9, f10, f11, f12, f13, f14, f15, f16, f17, f18, f19, f20, f21, f22⟩ := hΦ
                    refine ⟨fun _ => ?_, fun h => absurd h (by rw [Go.RE.wanted_none rfl]; decide)⟩
                    have d17 := f17 (hd 17 (by kernel_rfl))
                    have e95 : a.tmps[95]? = some (x 95) := hx 17 _ 95 rfl rfl (hd 17 (by kernel_rfl))
                    rw [d17] at e95
                    clear hf hx hd
                    go_simp
                    refine hK _ _ ?_
                    exact ⟨hI, fun h => f0 h, fun h => f1 h, fun h => f2 h, fun h => f3 h, fun h => f4 h, fun h => f5 h, fun h => f6 h, fun h => f7 h, fun h => f8 h, fun h => f9 h, fun h => f10 h, fun h => f11 h, fun h => f12 h, fun h => f13 h, fun h => f14 h, fun h => f15 h, fun h => f16 h, fun h => f17 h, fun _ => rfl, fun h => f19 h, fun h => f20 h, fun h => f21 h, fun h => f22 h⟩
                  · intro L x a wR K hL hd hf hx hΦ hK
                    obtain ⟨hI, f0, f1, f2, f3, f4, f5, f6, f7, f8, f9, f10, f11, f12, f13, f14, f15, f16, f17, f18, f19, f20, f21, f22⟩ := hΦ
                    refine ⟨fun _ => ?_, fun h => absurd h (by rw [Go.RE.wanted_none rfl]; decide)⟩
                    have d18 := f18 (hd 18 (by kernel_rfl))
                    have e77 : a.tmps[77]? = some (x 77) := hx 18 _ 77 rfl rfl (hd 18 (by kernel_rfl))
                    rw [d18] at e77
                    clear hf hx hd
                    go_simp
                    refine hK _ _ ?_
                    exact ⟨hI, fun h => f0 h, fun h => f1 h, fun h => f2 h, fun h => f3 h, fun h => f4 h, fun h => f5 h, fun h => f6 h, fun h => f7 h, fun h => f8 h, fun h => f9 h, fun h => f10 h, fun h => f11 h, fun h => f12 h, fun h => f13 h, fun h => f14 h, fun h => f15 h, fun h => f16 h, fun h => f17 h, fun h => f18 h, fun _ => rfl, fun h => f20 h, fun h => f21 h, fun h => f22 h⟩
                  · intro L x a wR K hL hd hf hx hΦ hK
                    obtain ⟨hI, f0, f1, f2, f3, f4, f5, f6, f7, f8, f9, f10, f11, f12, f13, f14, f15, f16, f17, f18, f19, f20, f21, f22⟩ := hΦ
                    refine ⟨fun _ => ?_, fun h => absurd h (by rw [Go.RE.wanted_none rfl]; decide)⟩
                    have d18 := f18 (hd 18 (by kernel_rfl))
                    have e77 : a.tmps[77]? = some (x 77) := hx 18 _ 77 rfl rfl (hd 18 (by kernel_rfl))
                    rw [d18] at e77
                    clear hf hx hd
                    go_simp
                    refine hK _ _ ?_
                    exact ⟨hI, fun h => f0 h, fun h => f1 h, fun h => f2 h, fun h => f3 h, fun h => f4 h, fun h => f5 h, fun h => f6 h, fun h => f7 h, fun h => f8 h, fun h => f9 h, fun h => f10 h, fun h => f11 h, fun h => f12 h, fun h => f13 h, fun h => f14 h, fun h => f15 h, fun h => f16 h, fun h => f17 h, fun h => f18 h, fun h => f19 h, fun _ => rfl, fun h => f21 h, fun h => f22 h⟩
                  · intro L x a wR K hL hd hf hx hΦ hK
                    obtain ⟨hI, f0, f1, f2, f3, f4, f5, f6, f7, f8, f9, f10, f11, f12, f13, f14, f15, f16, f17, f18, f19, f20, f21, f22⟩ := hΦ
                    refine ⟨fun _ => ?_, fun h => absurd h (by rw [Go.RE.wanted_none rfl]; decide)⟩
                    have d19 := f19 (hd 19 (by kernel_rfl))
                    have e96 : a.tmps[96]? = some (x 96) := hx 19 _ 96 rfl rfl (hd 19 (by kernel_rfl))
                    rw [d19] at e96
                    clear hf hx hd
                    go_simp
                    refine hK _ _ ?_
                    exact ⟨hI, fun h => f0 h, fun h => f1 h, fun h => f2 h, fun h => f3 h, fun h => f4 h, fun h => f5 h, fun h => f6 h, fun h => f7 h, fun h => f8 h, fun h => f9 h, fun h => f10 h, fun h => f11 h, fun h => f12 h, fun h => f13 h, fun h => f14 h, fun h => f15 h, fun h => f16 h, fun h => f17 h, fun h => f18 h, fun h => f19 h, fun h => f20 h, fun _ => rfl, fun h => f22 h⟩
                  · intro L x a wR K hL hd hf hx hΦ hK
                    obtain ⟨hI, f0, f1, f2, f3, f4, f5, f6, f7, f8, f9, f10, f11, f12, f13, f14, f15, f16, f17, f18, f19, f20, f21, f22⟩ := hΦ
                    refine ⟨fun _ => ?_, fun h => absurd h (by rw [Go.RE.wanted_none rfl]; decide)⟩
                    have d20 := f20 (hd 20 (by kernel_rfl))
                    have e97 : a.tmps[97]? = some (x 97) := hx 20 _ 97 rfl rfl (hd 20 (by kernel_rfl))
                    rw [d20] at e97
                    clear hf hx hd
                    go_simp
                    refine hK _ _ ?_
                    exact ⟨hI, fun h => f0 h, fun h => f1 h, fun h => f2 h, fun h => f3 h, fun h => f4 h, fun h => f5 h, fun h => f6 h, fun h => f7 h, fun h => f8 h, fun h => f9 h, fun h => f10 h, fun h => f11 h, fun h => f12 h, fun h => f13 h, fun h => f14 h, fun h => f15 h, fun h => f16 h, fun h => f17 h, fun h => f18 h, fun h => f19 h, fun h => f20 h, fun h => f21 h, fun _ => rfl⟩
                  · rintro x W ⟨hI, f0, f1, f2, f3, f4, f5, f6, f7, f8, f9, f10, f11, f12, f13, f14, f15, f16, f17, f18, f19, f20, f21, f22⟩
                    simp only [Exit.then]
                    go_step
                    go_meet
                    exact ⟨f21 rfl, f22 rfl, hI⟩
                case rest =>
                  obtain ⟨rfl, rfl, hB⟩ := hcut
                  replace HM9 := Lib.hid (HM9.out.below hB)
                  replace HF10 := Lib.hid (HF10.out.below hB)
                  replace HF11 := Lib.hid (HF11.out.below hB)
                  replace HRW := Lib.hid (HRW.out.below hB)
                  replace HBL := Lib.hid (below_tr HBL.out hB)
                  obtain ⟨q7, hq7⟩ : ∃ q : World, q = wc := ⟨_, rfl⟩
                  subst hq7
                  clear hB
                  go_upto_region 11 with (fail)
                  go_cut [23, 24] from 98 to 105 (fun v23 v24 wx => v23 = .int .i64 (vn : Int) ∧ v24 = .int .i64 0 ∧ Below q7.heap.size q7 wx)
                  case first =>
                    refine Go.RE.wp_region_eachg [99, 100, 101, 102, 103, 98, 104, 105, 23, 24] (fun L x W => (Below q7.heap.size q7 W) ∧ (L 0 = true → IsMv W (x 99) (mdl 4 n rl [u4, u5, u6])) ∧ (L 1 = true → IsFv W (x 100) (ff)) ∧ (L 2 = true → IsFsV W (x 101) [ff]) ∧ (L 3 = true → IsFv W (x 102) (.mk 3 ⟨#[]⟩ [] [ff])) ∧ (L 4 = true → x 103 = .tuple #[.int .i64 (vn : Int), .int .i64 0]) ∧ (L 5 = true → x 98 = .tuple #[.int .i64 (vn : Int), .int .i64 0]) ∧ (L 6 = true → x 104 = .int .i64 (vn : Int)) ∧ (L 7 = true → x 105 = .int .i64 0) ∧ (L 8 = true → x 23 = .int .i64 (vn : Int)) ∧ (L 9 = true → x 24 = .int .i64 0)) (by kernel_rfl) (by kernel_rfl) (by kernel_rfl) ?_ ((Go.RE.Each.cons ?_ (Go.RE.Each.cons ?_ (Go.RE.Each.cons ?_ (Go.RE.Each.cons ?_ (Go.RE.Each.cons ?_ (Go.RE.Each.cons ?_ (Go.RE.Each.cons ?_ (Go.RE.Each.cons ?_ (Go.RE.Each.cons ?_ (Go.RE.Each.cons ?_ Go.RE.Each.nil))))))))))) ?_
                    · exact fun x => ⟨bl_dr (Below.refl _ _), fun h => (by cases h), fun h => (by cases h), fun h => (by cases h), fun h => (by cases h), fun h => (by cases h), fun h => (by cases h), fun h => (by cases h), fun h => (by cases h), fun h => (by cases h), fun h => (by cases h)⟩
                    · intro L x a wR K hL hd hf hx hΦ hK
                      obtain ⟨hI, f0, f1, f2, f3, f4, f5, f6, f7, f8, f9⟩ := hΦ
                      refine ⟨fun _ => ?_, fun h => absurd h (by rw [Go.RE.wanted_none rfl]; decide)⟩
                      have e9 : a.tmps[9]? = some (.pointer (some ⟨B9, 0, none⟩)) := hf 9 (of_decide_eq_true (by kernel_rfl))
                      clear hf hx hd
                      obtain ⟨mk, mz, lp, r0, r1, r2, t0, t1, t2, u0, u1, u2, b0, b1, b2, hb, h2, h3, h5, h4⟩ := (HM9.out.below hI)
                      have cc := HK.blk_cell hb
                      have c0 := cc 0
                      have c1 := cc 1
                      have c2 := cc 2
                      have c3 := cc 3
                      have c4 := cc 4
                      have c5 := cc 5
                      have c6 := cc 6
                      clear cc
                      go_simp
                      refine hK _ _ ?_
                      exact ⟨hI, fun _ => ⟨mk, mz, lp, r0, r1, r2, t0, t1, t2, u0, u1, u2, b0, b1, b2, rfl, h2, h3, h5, h4⟩, fun h => f1 h, fun h => f2 h, fun h => f3 h, fun h => f4 h, fun h => f5 h, fun h => f6 h, fun h => f7 h, fun h => f8 h, fun h => f9 h⟩
                    · intro L x a wR K hL hd hf hx hΦ hK
                      obtain ⟨hI, f0, f1, f2, f3, f4, f5, f6, f7, f8, f9⟩ := hΦ
                      refine ⟨fun _ => ?_, fun h => absurd h (by rw [Go.RE.wanted_none rfl]; decide)⟩
                      have e10 : a.tmps[10]? = some (.pointer (some ⟨B10, 0, none⟩)) := hf 10 (of_decide_eq_true (by kernel_rfl))
                      clear hf hx hd
                      obtain ⟨o, nm, a0, a1, a2, s0, s1, s2, hb, h2, h3, h4⟩ := (HF10.out.below hI)
                      have cc := HK.blk_cell hb
                      have c0 := cc 0
                      have c1 := cc 1
                      have c2 := cc 2
                      have c3 := cc 3
                      clear cc
                      go_simp
                      refine hK _ _ ?_
                      exact ⟨hI, fun h => f0 h, fun _ => ⟨o, nm, a0, a1, a2, s0, s1, s2, rfl, h2, h3, h4⟩, fun h => f2 h, fun h => f3 h, fun h => f4 h, fun h => f5 h, fun h => f6 h, fun h => f7 h, fun h => f8 h, fun h => f9 h⟩
                    · intro L x a wR K hL hd hf hx hΦ hK
                      obtain ⟨hI, f0, f1, f2, f3, f4, f5, f6, f7, f8, f9⟩ := hΦ
                      refine ⟨fun _ => ?_, fun h => absurd h (by rw [Go.RE.wanted_none rfl]; decide)⟩
                      have d1 := f1 (hd 1 (by kernel_rfl))
                      have e100 : a.tmps[100]? = some (x 100) := hx 1 _ 100 rfl rfl (hd 1 (by kernel_rfl))
                      clear hf hx hd
                      obtain ⟨o, nm, a0, a1, a2, s0, s1, s2, hv, h2, h3, h4⟩ := d1
                      rw [hv] at e100
                      go_simp
                      refine hK _ _ ?_
                      exact ⟨below_tr hI (below_alloc _ _), fun h => (f0 h).below (below_alloc wR _), fun h => (f1 h).below (below_alloc wR _), fun _ => build1 h2 h3 h4, fun h => (f3 h).below (below_alloc wR _), fun h => f4 h, fun h => f5 h, fun h => f6 h, fun h => f7 h, fun h => f8 h, fun h => f9 h⟩
                    · intro L x a wR K hL hd hf hx hΦ hK
                      obtain ⟨hI, f0, f1, f2, f3, f4, f5, f6, f7, f8, f9⟩ := hΦ
                      refine ⟨fun _ => ?_, fun h => absurd h (by rw [Go.RE.wanted_none rfl]; decide)⟩
                      have d2 := f2 (hd 2 (by kernel_rfl))
                      have e101 : a.tmps[101]? = some (x 101) := hx 2 _ 101 rfl rfl (hd 2 (by kernel_rfl))
                      clear hf hx hd
                      obtain ⟨s0, s1, s2, hv, h2⟩ := d2
                      rw [hv] at e101
                      have HC : Hid (Calls Tryd.prog 15 #[.int .u8 3, .slice s0 s1 s2] wR fun e w' => e = .returned (.agg #[.int .u8 3, .string ⟨#[]⟩, .slice none 0 0, .slice s0 s1 s2]) ∧ IsFv w' (.agg #[.int .u8 3, .string ⟨#[]⟩, .slice none 0 0, .slice s0 s1 s2]) (.mk 3 ⟨#[]⟩ [] [ff]) ∧ Below wR.heap.size wR w') := Lib.hid (joinv (op := 3) (by omega) ⟨s0, s1, s2, rfl, h2⟩)
                      go_simp
                      go_at_call 15
                      with_reducible refine HC.out.mono ?_
                      rintro e w' ⟨rfl, hfv, hB8⟩
                      simp only
                      refine hK _ _ ?_
                      exact ⟨below_tr hI hB8, fun h => (f0 h).below hB8, fun h => (f1 h).below hB8, fun h => (f2 h).below hB8, fun _ => hfv, fun h => f4 h, fun h => f5 h, fun h => f6 h, fun h => f7 h, fun h => f8 h, fun h => f9 h⟩
                    · intro L x a wR K hL hd hf hx hΦ hK
                      obtain ⟨hI, f0, f1, f2, f3, f4, f5, f6, f7, f8, f9⟩ := hΦ
                      refine ⟨fun _ => ?_, fun h => absurd h (by rw [Go.RE.wanted_none rfl]; decide)⟩
                      have d0 := f0 (hd 0 (by kernel_rfl))
                      have e99 : a.tmps[99]? = some (x 99) := hx 0 _ 99 rfl rfl (hd 0 (by kernel_rfl))
                      have d3 := f3 (hd 3 (by kernel_rfl))
                      have e102 : a.tmps[102]? = some (x 102) := hx 3 _ 102 rfl rfl (hd 3 (by kernel_rfl))
                      clear hf hx hd
                      have hc := at_valv d0 d3 (HRW.out.below hI) HA6.out.1 HMO.out HA6.out.2.1 HA6.out.2.2.1 HA6.out.2.2.2
                      obtain ⟨mk, mz, lp, r0, r1, r2, t0, t1, t2, u0, u1, u2, b0, b1, b2, hv, _, _, _, _⟩ := d0
                      obtain ⟨o', nm', a0', a1', a2', s0', s1', s2', hv', _, _, _⟩ := d3
                      rw [hv] at e99
                      rw [hv'] at e102
                      rw [hv, hv'] at hc
                      have HC : Hid (Calls Tryd.prog 16 _ _ fun e w' => e = .returned (.tuple #[.int .i64 (vn : Int), .int .i64 0]) ∧ _) := Lib.hid hc
                      clear hc
                      go_simp
                      go_at_call 16
                      with_reducible refine HC.out.mono ?_
                      rintro e w' ⟨rfl, hB8⟩
                      simp only
                      refine hK _ _ ?_
                      exact ⟨below_tr hI hB8, fun h => (f0 h).below hB8, fun h => (f1 h).below hB8, fun h => (f2 h).below hB8, fun h => (f3 h).below hB8, fun _ => rfl, fun h => f5 h, fun h => f6 h, fun h => f7 h, fun h => f8 h, fun h => f9 h⟩
                    · intro L x a wR K hL hd hf hx hΦ hK
                      obtain ⟨hI, f0, f1, f2, f3, f4, f5, f6, f7, f8, f9⟩ := hΦ
                      refine ⟨fun _ => ?_, fun h => absurd h (by rw [Go.RE.wanted_none rfl]; decide)⟩
                      have d4 := f4 (hd 4 (by kernel_rfl))
                      have e103 : a.tmps[103]? = some (x 103) := hx 4 _ 103 rfl rfl (hd 4 (by kernel_rfl))
                      rw [d4] at e103
                      clear hf hx hd
                      go_simp
                      refine hK _ _ ?_
                      exact ⟨hI, fun h => f0 h, fun h => f1 h, fun h => f2 h, fun h => f3 h, fun h => f4 h, fun _ => rfl, fun h => f6 h, fun h => f7 h, fun h => f8 h, fun h => f9 h⟩
                    · intro L x a wR K hL hd hf hx hΦ hK
                      obtain ⟨hI, f0, f1, f2, f3, f4, f5, f6, f7, f8, f9⟩ := hΦ
                      refine ⟨fun _ => ?_, fun h => absurd h (by rw [Go.RE.wanted_none rfl]; decide)⟩
                      have d5 := f5 (hd 5 (by kernel_rfl))
                      have e98 : a.tmps[98]? = some (x 98) := hx 5 _ 98 rfl rfl (hd 5 (by kernel_rfl))
                      rw [d5] at e98
                      clear hf hx hd
                      go_simp
                      refine hK _ _ ?_
                      exact ⟨hI, fun h => f0 h, fun h => f1 h, fun h => f2 h, fun h => f3 h, fun h => f4 h, fun h => f5 h, fun _ => rfl, fun h => f7 h, fun h => f8 h, fun h => f9 h⟩
                    · intro L x a wR K hL hd hf hx hΦ hK
                      obtain ⟨hI, f0, f1, f2, f3, f4, f5, f6, f7, f8, f9⟩ := hΦ
                      refine ⟨fun _ => ?_, fun h => absurd h (by rw [Go.RE.wanted_none rfl]; decide)⟩
                      have d5 := f5 (hd 5 (by kernel_rfl))
                      have e98 : a.tmps[98]? = some (x 98) := hx 5 _ 98 rfl rfl (hd 5 (by kernel_rfl))
                      rw [d5] at e98
                      clear hf hx hd
                      go_simp
                      refine hK _ _ ?_
                      exact ⟨hI, fun h => f0 h, fun h => f1 h, fun h => f2 h, fun h => f3 h, fun h => f4 h, fun h => f5 h, fun h => f6 h, fun _ => rfl, fun h => f8 h, fun h => f9 h⟩
                    · intro L x a wR K hL hd hf hx hΦ hK
                      obtain ⟨hI, f0, f1, f2, f3, f4, f5, f6, f7, f8, f9⟩ := hΦ
                      refine ⟨fun _ => ?_, fun h => absurd h (by rw [Go.RE.wanted_none rfl]; decide)⟩
                      have d6 := f6 (hd 6 (by kernel_rfl))
                      have e104 : a.tmps[104]? = some (x 104) := hx 6 _ 104 rfl rfl (hd 6 (by kernel_rfl))
                      rw [d6] at e104
                      clear hf hx hd
                      go_simp
                      refine hK _ _ ?_
                      exact ⟨hI, fun h => f0 h, fun h => f1 h, fun h => f2 h, fun h => f3 h, fun h => f4 h, fun h => f5 h, fun h => f6 h, fun h => f7 h, fun _ => rfl, fun h => f9 h⟩
                    · intro L x a wR K hL hd hf hx hΦ hK
                      obtain ⟨hI, f0, f1, f2, f3, f4, f5, f6, f7, f8, f9⟩ := hΦ
                      refine ⟨fun _ => ?_, fun h => absurd h (by rw [Go.RE.wanted_none rfl]; decide)⟩
                      have d7 := f7 (hd 7 (by kernel_rfl))
                      have e105 : a.tmps[105]? = some (x 105) := hx 7 _ 105 rfl rfl (hd 7 (by kernel_rfl))
                      rw [d7] at e105
                      clear hf hx hd
                      go_simp
                      refine hK _ _ ?_
                      exact ⟨hI, fun h => f0 h, fun h => f1 h, fun h => f2 h, fun h => f3 h, fun h => f4 h, fun h => f5 h, fun h => f6 h, fun h => f7 h, fun h => f8 h, fun _ => rfl⟩
                    · rintro x W ⟨hI, f0, f1, f2, f3, f4, f5, f6, f7, f8, f9⟩
                      simp only [Exit.then]
                      go_step
                      go_meet
                      exact ⟨f8 rfl, f9 rfl, hI⟩
                  case rest =>
                    obtain ⟨rfl, rfl, hB⟩ := hcut
                    replace HM9 := Lib.hid (HM9.out.below hB)
                    replace HF10 := Lib.hid (HF10.out.below hB)
                    replace HF11 := Lib.hid (HF11.out.below hB)
                    replace HRW := Lib.hid (HRW.out.below hB)
                    replace HBL := Lib.hid (below_tr HBL.out hB)
                    obtain ⟨q8, hq8⟩ : ∃ q : World, q = wc := ⟨_, rfl⟩
                    subst hq8
                    clear hB
                    go_upto_region 12 with (fail)
                    go_cut [144] from 106 to 143 (fun v wx => v = .bool false ∧ q8 = wx)
                    case first =>
                      have hv16 := HV16.out
                      have he16 : ev < 16 := by have h := HEV.out; rw [HLEN.out] at h; have := pow_le4 HN14.out.2; omega
                      have e1 : bits .andNot .i64 (ev : Int) (va : Int) = (vn : Int) := by rw [bits_andn ev va (by omega) (by omega), HP3.out]
                      by_cases hE : va = ev
                      · have e2 := HP4.out hE
                        clear hv16 he16
                        subst hE
                        subst e2
                        go_wp2_with (fail)
                        go_meet
                        exact ⟨rfl, rfl⟩
                      · clear hv16 he16
                        have hE2 : ¬ ((va : Int) = (ev : Int)) := by omega
                        have hE3 : ((va : Int) == (ev : Int)) = false := by simp; omega
                        go_wp2_with (fail)
                        go_meet
                        exact ⟨rfl, rfl⟩
                    case rest =>
                      obtain ⟨rfl, rfl⟩ := hcut
                      obtain ⟨mk, mz, lp, r0, r1, r2, t0, t1, t2, v0, v1, v2, b0, b1, b2, hb, h2, h3, h5, h4⟩ := HM9.out
                      obtain rfl : mk = 4 := h2.symm
                      obtain rfl : mz = (n : Int) := h3.symm
                      have hr1 : r1 = n := by
                        have e : r1 = (rl.map fun x : Nat => (x : Int)).length := h4.r.1
                        rw [List.length_map, HLEN.out] at e
                        exact e
                      obtain ⟨g, o, hr0⟩ := h4.r.pos (show 0 < r1 by have := HN14.out; omega)
                      simp only [] at hr0
                      subst hr0 hr1
                      obtain ⟨n1, n4⟩ := HN14.out
                      have hR0 : IsR q8 g o rl := IsZ.r h4.r.z
                      have hbc : q8.heap[B9]? = some (.cells #[.int .u8 4, .int .i64 (r1 : Int), .slice (some ⟨g, o, none⟩) r1 r2, .int .i64 lp, .slice t0 t1 t2, .slice v0 v1 v2, .slice b0 b1 b2] 30 (0, 0)) := hb
                      have HBX := Lib.hid hbc
                      have HRR := Lib.hid hR0
                      clear hb h2 h3 h4 h5 hbc hR0
                      go_wp2_with (fail)
                      go_loopw [25] (fun i wr => ∃ k : Nat, k ≤ r1 ∧ i = .int .i64 k ∧ Below q8.heap.size q8 wr) (fun i _ => r1 - (intOf i).toNat)
                      case atStart => exact ⟨0, by omega, rfl, Below.refl _ _⟩
                      case round =>
                        obtain ⟨k, hk, rfl, hB⟩ := hrel
                        have HB := Lib.hid hB
                        have hbx := blk_up9 hB HBX.out
                        have c1 := HK.blk_cell hbx 1
                        by_cases hkn : (k : Int) < (r1 : Int)
                        · have b0 : (0 : Int) ≤ (k : Int) := by omega
                          obtain ⟨rk, hrk⟩ : ∃ x, rl[k]? = some x := ⟨_, List.getElem?_eq_getElem (by rw [HLEN.out]; omega)⟩
                          have hgk := getD_get hrk
                          have hr16 : rk < 16 := by rw [← hgk]; exact HFO.out.get k
                          have hv16 := HV16.out
                          have HM2 : Hid (∀ W, Below wr.heap.size wr W → W.cell? ⟨B9, 2, none⟩ = some (.slice (some ⟨g, o, none⟩) r1 r2)) := Lib.hid fun W h => HK.blk_cell (blk_up9 h hbx) 2
                          have hRw : IsR wr g o rl := HRR.out.below hB
                          have HRK : Hid (∀ W, Below wr.heap.size wr W → W.cell? ⟨g, o + k, none⟩ = some (.int .i64 (rk : Int))) := Lib.hid fun W h => (hRw.below h) k rk hrk
                          obtain ⟨qa, hqa⟩ : ∃ qa, qa = vx >>> k := ⟨_, rfl⟩
                          obtain ⟨qb, hqb⟩ : ∃ qb, qb = vd >>> k := ⟨_, rfl⟩
                          have HSH : Hid ((vx : Int) / 2 ^ k = (qa : Int) ∧ (vd : Int) / 2 ^ k = (qb : Int)) := Lib.hid ⟨by rw [hqa]; exact quo_nat vx k, by rw [hqb]; exact quo_nat vd k⟩
                          have HMN : Hid (min k 64 = k) := Lib.hid (by omega)
                          have HK0 := Lib.hid b0
                          have HK1 := Lib.hid hkn
                          obtain ⟨ra, hra⟩ : ∃ ra, ra = andn rk va := ⟨_, rfl⟩
                          obtain ⟨rb, hrb⟩ : ∃ rb, rb = rk &&& va := ⟨_, rfl⟩
                          have HRA : Hid (bits .andNot .i64 (rk : Int) (va : Int) = (ra : Int)) := Lib.hid (by rw [hra]; exact bits_andn rk va (by omega) (by omega))
                          have HRB : Hid (bits .and .i64 (rk : Int) (va : Int) = (rb : Int)) := Lib.hid (by rw [hrb]; exact bits_and rk va (by omega) (by omega))
                          have hp5 := HP5.out k (by rw [HLEN.out]; omega)
                          rw [hgk, ← hra] at hp5
                          have hp6 := HP6.out k (by rw [HLEN.out]; omega)
                          rw [hgk, ← hrb] at hp6
                          obtain ⟨ba, hba⟩ : ∃ ba, ba = vx.testBit k := ⟨_, rfl⟩
                          obtain ⟨bb, hbb⟩ : ∃ bb, bb = vd.testBit k := ⟨_, rfl⟩
                          rw [← hba] at hp5
                          rw [← hbb] at hp6
                          have HA0 : Hid (bits .and .i64 (qa : Int) 1 = (if ba = true then 1 else 0)) := Lib.hid (by
                            rw [← HSH.out.1]
                            rcases e : ba with _ | _
                            · rw [e] at hba; exact bit0 (by omega) hba.symm
                            · rw [e] at hba; exact bit1 (by omega) hba.symm)
                          have HB0 : Hid (bits .and .i64 (qb : Int) 1 = (if bb = true then 1 else 0)) := Lib.hid (by
                            rw [← HSH.out.2]
                            rcases e : bb with _ | _
                            · rw [e] at hbb; exact bit0 (by omega) hbb.symm
                            · rw [e] at hbb; exact bit1 (by omega) hbb.symm)
                          have HZA : Hid (((ra : Int) == 0) = ba) := Lib.hid (by
                            rcases e : ba with _ | _
                            · have : ¬ ra = 0 := fun h => by have := hp5.2 h; rw [e] at this; cases this
                              simp; omega
                            · have := hp5.1 e
                              simp; omega)
                          have HZB : Hid (((rb : Int) != 0) = bb) := Lib.hid (by
                            rcases e : bb with _ | _
                            · have : rb = 0 := Classical.byContradiction fun h => by have := hp6.2 h; rw [e] at this; cases this
                              simp; omega
                            · have := hp6.1 e
                              simp; omega)
                          clear hp5 hp6 hra hrb hba hbb hqa hqb hr16 hv16 hgk hrk hRw b0
                          go_upto_region 17 with (fail)
                          clear c1
                          go_cut [180] from 151 to 179 (fun v wx => v = .bool false ∧ Below wr.heap.size wr wx)
                          case first =>
                            clear hbx hB hk hkn
                            refine Go.RE.wp_region_eachg [151, 152, 153, 154, 155, 156, 157, 158, 159, 160, 161, 162, 163, 164, 165, 166, 167, 168, 169, 170, 171, 172, 173, 174, 175, 176, 177, 178, 179, 180] (fun L x W => (Below wr.heap.size wr W) ∧ (L 0 = true → x 151 = .int .i64 (vx : Int)) ∧ (L 1 = true → x 152 = .int .i64 (k : Int)) ∧ (L 2 = true → x 153 = .int .i64 (qa : Int)) ∧ (L 3 = true → x 154 = .int .i64 (if ba = true then 1 else 0)) ∧ (L 4 = true → x 155 = .bool ba) ∧ (L 5 = true → x 156 = .pointer (some ⟨B9, 2, none⟩)) ∧ (L 6 = true → x 157 = .slice (some ⟨g, o, none⟩) r1 r2) ∧ (L 7 = true → x 158 = .int .i64 (k : Int)) ∧ (L 8 = true → x 159 = .pointer (some ⟨g, o + k, none⟩)) ∧ (L 9 = true → x 160 = .int .i64 (rk : Int)) ∧ (L 10 = true → x 161 = .int .i64 (va : Int)) ∧ (L 11 = true → x 162 = .int .i64 (ra : Int)) ∧ (L 12 = true → x 163 = .bool ba) ∧ (L 13 = true → x 164 = .bool false) ∧ (L 14 = true → x 165 = .bool false) ∧ (L 15 = true → x 166 = .int .i64 (vd : Int)) ∧ (L 16 = true → x 167 = .int .i64 (k : Int)) ∧ (L 17 = true → x 168 = .int .i64 (qb : Int)) ∧ (L 18 = true → x 169 = .int .i64 (if bb = true then 1 else 0)) ∧ (L 19 = true → x 170 = .bool bb) ∧ (L 20 = true → x 171 = .pointer (some ⟨B9, 2, none⟩)) ∧ (L 21 = true → x 172 = .slice (some ⟨g, o, none⟩) r1 r2) ∧ (L 22 = true → x 173 = .int .i64 (k : Int)) ∧ (L 23 = true → x 174 = .pointer (some ⟨g, o + k, none⟩)) ∧ (L 24 = true → x 175 = .int .i64 (rk : Int)) ∧ (L 25 = true → x 176 = .int .i64 (va : Int)) ∧ (L 26 = true → x 177 = .int .i64 (rb : Int)) ∧ (L 27 = true → x 178 = .bool bb) ∧ (L 28 = true → x 179 = .bool false) ∧ (L 29 = true → x 180 = .bool false)) (by kernel_rfl) (by kernel_rfl) (by kernel_rfl) ?_ ((Go.RE.Each.cons ?_ (Go.RE.Each.cons ?_ (Go.RE.Each.cons ?_ (Go.RE.Each.cons ?_ (Go.RE.Each.cons ?_ (Go.RE.Each.cons ?_ (Go.RE.Each.cons ?_ (Go.RE.Each.cons ?_ (Go.RE.Each.cons ?_ (Go.RE.Each.cons ?_ (Go.RE.Each.cons ?_ (Go.RE.Each.cons ?_ (Go.RE.Each.cons ?_ (Go.RE.Each.cons ?_ (Go.RE.Each.cons ?_ (Go.RE.Each.cons ?_ (Go.RE.Each.cons ?_ (Go.RE.Each.cons ?_ (Go.RE.Each.cons ?_ (Go.RE.Each.cons ?_ (Go.RE.Each.cons ?_ (Go.RE.Each.cons ?_ (Go.RE.Each.cons ?_ (Go.RE.Each.cons ?_ (Go.RE.Each.cons ?_ (Go.RE.Each.cons ?_ (Go.RE.Each.cons ?_ (Go.RE.Each.cons ?_ (Go.RE.Each.cons ?_ (Go.RE.Each.cons ?_ Go.RE.Each.nil))))))))))))))))))))))))))))))) ?_
                            · exact fun x => ⟨bl_dr (Below.refl _ _), fun h => (by cases h), fun h => (by cases h), fun h => (by cases h), fun h => (by cases h), fun h => (by cases h), fun h => (by cases h), fun h => (by cases h), fun h => (by cases h), fun h => (by cases h), fun h => (by cases h), fun h => (by cases h), fun h => (by cases h), fun h => (by cases h), fun h => (by cases h), fun h => (by cases h), fun h => (by cases h), fun h => (by cases h), fun h => (by cases h), fun h => (by cases h), fun h => (by cases h), fun h => (by cases h), fun h => (by cases h), fun h => (by cases h), fun h => (by cases h), fun h => (by cases h), fun h => (by cases h), fun h => (by cases h), fun h => (by cases h), fun h => (by cases h), fun h => (by cases h)⟩
                            · intro L x a wR K hL hd hf hx hΦ hK
                              obtain ⟨hI, f0, f1, f2, f3, f4, f5, f6, f7, f8, f9, f10, f11, f12, f13, f14, f15, f16, f17, f18, f19, f20, f21, f22, f23, f24, f25, f26, f27, f28, f29⟩ := hΦ
                              refine ⟨fun _ => ?_, fun h => absurd h (by rw [Go.RE.wanted_none rfl]; decide)⟩
                              have e15 : a.tmps[15]? = some (.int .i64 (vx : Int)) := hf 15 (of_decide_eq_true (by kernel_rfl))
                              clear hf hx hd
                              go_simp
                              refine hK _ _ ?_
                              exact ⟨hI, fun _ => rfl, fun h => f1 h, fun h => f2 h, fun h => f3 h, fun h => f4 h, fun h => f5 h, fun h => f6 h, fun h => f7 h, fun h => f8 h, fun h => f9 h, fun h => f10 h, fun h => f11 h, fun h => f12 h, fun h => f13 h, fun h => f14 h, fun h => f15 h, fun h => f16 h, fun h => f17 h, fun h => f18 h, fun h => f19 h, fun h => f20 h, fun h => f21 h, fun h => f22 h, fun h => f23 h, fun h => f24 h, fun h => f25 h, fun h => f26 h, fun h => f27 h, fun h => f28 h, fun h => f29 h⟩
                            · intro L x a wR K hL hd hf hx hΦ hK
                              obtain ⟨hI, f0, f1, f2, f3, f4, f5, f6, f7, f8, f9, f10, f11, f12, f13, f14, f15, f16, f17, f18, f19, f20, f21, f22, f23, f24, f25, f26, f27, f28, f29⟩ := hΦ
                              refine ⟨fun _ => ?_, fun h => absurd h (by rw [Go.RE.wanted_none rfl]; decide)⟩
                              have e25 : a.tmps[25]? = some (.int .i64 (k : Int)) := hf 25 (of_decide_eq_true (by kernel_rfl))
                              clear hf hx hd
                              go_simp
                              refine hK _ _ ?_
                              exact ⟨hI, fun h => f0 h, fun _ => rfl, fun h => f2 h, fun h => f3 h, fun h => f4 h, fun h => f5 h, fun h => f6 h, fun h => f7 h, fun h => f8 h, fun h => f9 h, fun h => f10 h, fun h => f11 h, fun h => f12 h, fun h => f13 h, fun h => f14 h, fun h => f15 h, fun h => f16 h, fun h => f17 h, fun h => f18 h, fun h => f19 h, fun h => f20 h, fun h => f21 h, fun h => f22 h, fun h => f23 h, fun h => f24 h, fun h => f25 h, fun h => f26 h, fun h => f27 h, fun h => f28 h, fun h => f29 h⟩
                            · intro L x a wR K hL hd hf hx hΦ hK
                              obtain ⟨hI, f0, f1, f2, f3, f4, f5, f6, f7, f8, f9, f10, f11, f12, f13, f14, f15, f16, f17, f18, f19, f20, f21, f22, f23, f24, f25, f26, f27, f28, f29⟩ := hΦ
                              refine ⟨fun _ => ?_, fun h => absurd h (by rw [Go.RE.wanted_none rfl]; decide)⟩
                              have d0 := f0 (hd 0 (by kernel_rfl))
                              have e151 : a.tmps[151]? = some (x 151) := hx 0 _ 151 rfl rfl (hd 0 (by kernel_rfl))
                              rw [d0] at e151
                              have d1 := f1 (hd 1 (by kernel_rfl))
                              have e152 : a.tmps[152]? = some (x 152) := hx 1 _ 152 rfl rfl (hd 1 (by kernel_rfl))
                              rw [d1] at e152
                              have sh1 := HSH.out.1
                              have hmin := HMN.out
                              have b0 := HK0.out
                              clear hf hx hd
                              go_simp
                              refine hK _ _ ?_
                              exact ⟨hI, fun h => f0 h, fun h => f1 h, fun _ => rfl, fun h => f3 h, fun h => f4 h, fun h => f5 h, fun h => f6 h, fun h => f7 h, fun h => f8 h, fun h => f9 h, fun h => f10 h, fun h => f11 h, fun h => f12 h, fun h => f13 h, fun h => f14 h, fun h => f15 h, fun h => f16 h, fun h => f17 h, fun h => f18 h, fun h => f19 h, fun h => f20 h, fun h => f21 h, fun h => f22 h, fun h => f23 h, fun h => f24 h, fun h => f25 h, fun h => f26 h, fun h => f27 h, fun h => f28 h, fun h => f29 h⟩
                            · intro L x a wR K hL hd hf hx hΦ hK
                              obtain ⟨hI, f0, f1, f2, f3, f4, f5, f6, f7, f8, f9, f10, f11, f12, f13, f14, f15, f16, f17, f18, f19, f20, f21, f22, f23, f24, f25, f26, f27, f28, f29⟩ := hΦ
                              refine ⟨fun _ => ?_, fun h => absurd h (by rw [Go.RE.wanted_none rfl]; decide)⟩
                              have d2 := f2 (hd 2 (by kernel_rfl))
                              have e153 : a.tmps[153]? = some (x 153) := hx 2 _ 153 rfl rfl (hd 2 (by kernel_rfl))
                              rw [d2] at e153
                              have e1 := HA0.out
                              clear hf hx hd
                              go_simp
                              refine hK _ _ ?_
                              exact ⟨hI, fun h => f0 h, fun h => f1 h, fun h => f2 h, fun _ => rfl, fun h => f4 h, fun h => f5 h, fun h => f6 h, fun h => f7 h, fun h => f8 h, fun h => f9 h, fun h => f10 h, fun h => f11 h, fun h => f12 h, fun h => f13 h, fun h => f14 h, fun h => f15 h, fun h => f16 h, fun h => f17 h, fun h => f18 h, fun h => f19 h, fun h => f20 h, fun h => f21 h, fun h => f22 h, fun h => f23 h, fun h => f24 h, fun h => f25 h, fun h => f26 h, fun h => f27 h, fun h => f28 h, fun h => f29 h⟩
                            · intro L x a wR K hL hd hf hx hΦ hK
                              obtain ⟨hI, f0, f1, f2, f3, f4, f5, f6, f7, f8, f9, f10, f11, f12, f13, f14, f15, f16, f17, f18, f19, f20, f21, f22, f23, f24, f25, f26, f27, f28, f29⟩ := hΦ
                              refine ⟨fun _ => ?_, fun h => absurd h (by rw [Go.RE.wanted_none rfl]; decide)⟩
                              have d3 := f3 (hd 3 (by kernel_rfl))
                              have e154 : a.tmps[154]? = some (x 154) := hx 3 _ 154 rfl rfl (hd 3 (by kernel_rfl))
                              rw [d3] at e154
                              have ei : (((if ba = true then 1 else 0 : Int)) == 1) = ba := by cases ba <;> rfl
                              clear hf hx hd
                              go_simp
                              refine hK _ _ ?_
                              exact ⟨hI, fun h => f0 h, fun h => f1 h, fun h => f2 h, fun h => f3 h, fun _ => rfl, fun h => f5 h, fun h => f6 h, fun h => f7 h, fun h => f8 h, fun h => f9 h, fun h => f10 h, fun h => f11 h, fun h => f12 h, fun h => f13 h, fun h => f14 h, fun h => f15 h, fun h => f16 h, fun h => f17 h, fun h => f18 h, fun h => f19 h, fun h => f20 h, fun h => f21 h, fun h => f22 h, fun h => f23 h, fun h => f24 h, fun h => f25 h, fun h => f26 h, fun h => f27 h, fun h => f28 h, fun h => f29 h⟩
                            · intro L x a wR K hL hd hf hx hΦ hK
                              obtain ⟨hI, f0, f1, f2, f3, f4, f5, f6, f7, f8, f9, f10, f11, f12, f13, f14, f15, f16, f17, f18, f19, f20, f21, f22, f23, f24, f25, f26, f27, f28, f29⟩ := hΦ
                              refine ⟨fun _ => ?_, fun h => absurd h (by rw [Go.RE.wanted_none rfl]; decide)⟩
                              have e9 : a.tmps[9]? = some (.pointer (some ⟨B9, 0, none⟩)) := hf 9 (of_decide_eq_true (by kernel_rfl))
                              clear hf hx hd
                              go_simp
                              refine hK _ _ ?_
                              exact ⟨hI, fun h => f0 h, fun h => f1 h, fun h => f2 h, fun h => f3 h, fun h => f4 h, fun _ => rfl, fun h => f6 h, fun h => f7 h, fun h => f8 h, fun h => f9 h, fun h => f10 h, fun h => f11 h, fun h => f12 h, fun h => f13 h, fun h => f14 h, fun h => f15 h, fun h => f16 h, fun h => f17 h, fun h => f18 h, fun h => f19 h, fun h => f20 h, fun h => f21 h, fun h => f22 h, fun h => f23 h, fun h => f24 h, fun h => f25 h, fun h => f26 h, fun h => f27 h, fun h => f28 h, fun h => f29 h⟩
                            · intro L x a wR K hL hd hf hx hΦ hK
                              obtain ⟨hI, f0, f1, f2, f3, f4, f5, f6, f7, f8, f9, f10, f11, f12, f13, f14, f15, f16, f17, f18, f19, f20, f21, f22, f23, f24, f25, f26, f27, f28, f29⟩ := hΦ
                              refine ⟨fun _ => ?_, fun h => absurd h (by rw [Go.RE.wanted_none rfl]; decide)⟩
                              have d5 := f5 (hd 5 (by kernel_rfl))
                              have e156 : a.tmps[156]? = some (x 156) := hx 5 _ 156 rfl rfl (hd 5 (by kernel_rfl))
                              rw [d5] at e156
                              have c := HM2.out _ hI
                              clear hf hx hd
                              go_simp
                              refine hK _ _ ?_
                              exact ⟨hI, fun h => f0 h, fun h => f1 h, fun h => f2 h, fun h => f3 h, fun h => f4 h, fun h => f5 h, fun _ => rfl, fun h => f7 h, fun h => f8 h, fun h => f9 h, fun h => f10 h, fun h => f11 h, fun h => f12 h, fun h => f13 h, fun h => f14 h, fun h => f15 h, fun h => f16 h, fun h => f17 h, fun h => f18 h, fun h => f19 h, fun h => f20 h, fun h => f21 h, fun h => f22 h, fun h => f23 h, fun h => f24 h, fun h => f25 h, fun h => f26 h, fun h => f27 h, fun h => f28 h, fun h => f29 h⟩
                            · intro L x a wR K hL hd hf hx hΦ hK
                              obtain ⟨hI, f0, f1, f2, f3, f4, f5, f6, f7, f8, f9, f10, f11, f12, f13, f14, f15, f16, f17, f18, f19, f20, f21, f22, f23, f24, f25, f26, f27, f28, f29⟩ := hΦ
                              refine ⟨fun _ => ?_, fun h => absurd h (by rw [Go.RE.wanted_none rfl]; decide)⟩
                              have e25 : a.tmps[25]? = some (.int .i64 (k : Int)) := hf 25 (of_decide_eq_true (by kernel_rfl))
                              clear hf hx hd
                              go_simp
                              refine hK _ _ ?_
                              exact ⟨hI, fun h => f0 h, fun h => f1 h, fun h => f2 h, fun h => f3 h, fun h => f4 h, fun h => f5 h, fun h => f6 h, fun _ => rfl, fun h => f8 h, fun h => f9 h, fun h => f10 h, fun h => f11 h, fun h => f12 h, fun h => f13 h, fun h => f14 h, fun h => f15 h, fun h => f16 h, fun h => f17 h, fun h => f18 h, fun h => f19 h, fun h => f20 h, fun h => f21 h, fun h => f22 h, fun h => f23 h, fun h => f24 h, fun h => f25 h, fun h => f26 h, fun h => f27 h, fun h => f28 h, fun h => f29 h⟩
                            · intro L x a wR K hL hd hf hx hΦ hK
                              obtain ⟨hI, f0, f1, f2, f3, f4, f5, f6, f7, f8, f9, f10, f11, f12, f13, f14, f15, f16, f17, f18, f19, f20, f21, f22, f23, f24, f25, f26, f27, f28, f29⟩ := hΦ
                              refine ⟨fun _ => ?_, fun h => absurd h (by rw [Go.RE.wanted_none rfl]; decide)⟩
                              have d6 := f6 (hd 6 (by kernel_rfl))
                              have e157 : a.tmps[157]? = some (x 157) := hx 6 _ 157 rfl rfl (hd 6 (by kernel_rfl))
                              rw [d6] at e157
                              have d7 := f7 (hd 7 (by kernel_rfl))
                              have e158 : a.tmps[158]? = some (x 158) := hx 7 _ 158 rfl rfl (hd 7 (by kernel_rfl))
                              rw [d7] at e158
                              have l1 := HK0.out
                              have l2 := HK1.out
                              clear hf hx hd
                              go_simp
                              refine hK _ _ ?_
                              exact ⟨hI, fun h => f0 h, fun h => f1 h, fun h => f2 h, fun h => f3 h, fun h => f4 h, fun h => f5 h, fun h => f6 h, fun h => f7 h, fun _ => rfl, fun h => f9 h, fun h => f10 h, fun h => f11 h, fun h => f12 h, fun h => f13 h, fun h => f14 h, fun h => f15 h, fun h => f16 h, fun h => f17 h, fun h => f18 h, fun h => f19 h, fun h => f20 h, fun h => f21 h, fun h => f22 h, fun h => f23 h, fun h => f24 h, fun h => f25 h, fun h => f26 h, fun h => f27 h, fun h => f28 h, fun h => f29 h⟩
                            · intro L x a wR K hL hd hf hx hΦ hK
                              obtain ⟨hI, f0, f1, f2, f3, f4, f5, f6, f7, f8, f9, f10, f11, f12, f13, f14, f15, f16, f17, f18, f19, f20, f21, f22, f23, f24, f25, f26, f27, f28, f29⟩ := hΦ
                              refine ⟨fun _ => ?_, fun h => absurd h (by rw [Go.RE.wanted_none rfl]; decide)⟩
                              have d8 := f8 (hd 8 (by kernel_rfl))
                              have e159 : a.tmps[159]? = some (x 159) := hx 8 _ 159 rfl rfl (hd 8 (by kernel_rfl))
                              rw [d8] at e159
                              have c := HRK.out _ hI
                              clear hf hx hd
                              go_simp
                              refine hK _ _ ?_
                              exact ⟨hI, fun h => f0 h, fun h => f1 h, fun h => f2 h, fun h => f3 h, fun h => f4 h, fun h => f5 h, fun h => f6 h, fun h => f7 h, fun h => f8 h, fun _ => rfl, fun h => f10 h, fun h => f11 h, fun h => f12 h, fun h => f13 h, fun h => f14 h, fun h => f15 h, fun h => f16 h, fun h => f17 h, fun h => f18 h, fun h => f19 h, fun h => f20 h, fun h => f21 h, fun h => f22 h, fun h => f23 h, fun h => f24 h, fun h => f25 h, fun h => f26 h, fun h => f27 h, fun h => f28 h, fun h => f29 h⟩
                            · intro L x a wR K hL hd hf hx hΦ hK
                              obtain ⟨hI, f0, f1, f2, f3, f4, f5, f6, f7, f8, f9, f10, f11, f12, f13, f14, f15, f16, f17, f18, f19, f20, f21, f22, f23, f24, f25, f26, f27, f28, f29⟩ := hΦ
                              refine ⟨fun _ => ?_, fun h => absurd h (by rw [Go.RE.wanted_none rfl]; decide)⟩
                              have e13 : a.tmps[13]? = some (.int .i64 (va : Int)) := hf 13 (of_decide_eq_true (by kernel_rfl))
                              clear hf hx hd
                              go_simp
                              refine hK _ _ ?_
                              exact ⟨hI, fun h => f0 h, fun h => f1 h, fun h => f2 h, fun h => f3 h, fun h => f4 h, fun h => f5 h, fun h => f6 h, fun h => f7 h, fun h => f8 h, fun h => f9 h, fun _ => rfl, fun h => f11 h, fun h => f12 h, fun h => f13 h, fun h => f14 h, fun h => f15 h, fun h => f16 h, fun h => f17 h, fun h => f18 h, fun h => f19 h, fun h => f20 h, fun h => f21 h, fun h => f22 h, fun h => f23 h, fun h => f24 h, fun h => f25 h, fun h => f26 h, fun h => f27 h, fun h => f28 h, fun h => f29 h⟩
                            · intro L x a wR K hL hd hf hx hΦ hK
                              obtain ⟨hI, f0, f1, f2, f3, f4, f5, f6, f7, f8, f9, f10, f11, f12, f13, f14, f15, f16, f17, f18, f19, f20, f21, f22, f23, f24, f25, f26, f27, f28, f29⟩ := hΦ
                              refine ⟨fun _ => ?_, fun h => absurd h (by rw [Go.RE.wanted_none rfl]; decide)⟩
                              have d9 := f9 (hd 9 (by kernel_rfl))
                              have e160 : a.tmps[160]? = some (x 160) := hx 9 _ 160 rfl rfl (hd 9 (by kernel_rfl))
                              rw [d9] at e160
                              have d10 := f10 (hd 10 (by kernel_rfl))
                              have e161 : a.tmps[161]? = some (x 161) := hx 10 _ 161 rfl rfl (hd 10 (by kernel_rfl))
                              rw [d10] at e161
                              have e1 := HRA.out
                              clear hf hx hd
                              go_simp
                              refine hK _ _ ?_
                              exact ⟨hI, fun h => f0 h, fun h => f1 h, fun h => f2 h, fun h => f3 h, fun h => f4 h, fun h => f5 h, fun h => f6 h, fun h => f7 h, fun h => f8 h, fun h => f9 h, fun h => f10 h, fun _ => rfl, fun h => f12 h, fun h => f13 h, fun h => f14 h, fun h => f15 h, fun h => f16 h, fun h => f17 h, fun h => f18 h, fun h => f19 h, fun h => f20 h, fun h => f21 h, fun h => f22 h, fun h => f23 h, fun h => f24 h, fun h => f25 h, fun h => f26 h, fun h => f27 h, fun h => f28 h, fun h => f29 h⟩
                            · intro L x a wR K hL hd hf hx hΦ hK
                              obtain ⟨hI, f0, f1, f2, f3, f4, f5, f6, f7, f8, f9, f10, f11, f12, f13, f14, f15, f16, f17, f18, f19, f20, f21, f22, f23, f24, f25, f26, f27, f28, f29⟩ := hΦ
                              refine ⟨fun _ => ?_, fun h => absurd h (by rw [Go.RE.wanted_none rfl]; decide)⟩
                              have d11 := f11 (hd 11 (by kernel_rfl))
                              have e162 : a.tmps[162]? = some (x 162) := hx 11 _ 162 rfl rfl (hd 11 (by kernel_rfl))
                              rw [d11] at e162
                              have e1 := HZA.out
                              clear hf hx hd
                              go_simp
                              refine hK _ _ ?_
                              exact ⟨hI, fun h => f0 h, fun h => f1 h, fun h => f2 h, fun h => f3 h, fun h => f4 h, fun h => f5 h, fun h => f6 h, fun h => f7 h, fun h => f8 h, fun h => f9 h, fun h => f10 h, fun h => f11 h, fun _ => rfl, fun h => f13 h, fun h => f14 h, fun h => f15 h, fun h => f16 h, fun h => f17 h, fun h => f18 h, fun h => f19 h, fun h => f20 h, fun h => f21 h, fun h => f22 h, fun h => f23 h, fun h => f24 h, fun h => f25 h, fun h => f26 h, fun h => f27 h, fun h => f28 h, fun h => f29 h⟩
                            · intro L x a wR K hL hd hf hx hΦ hK
                              obtain ⟨hI, f0, f1, f2, f3, f4, f5, f6, f7, f8, f9, f10, f11, f12, f13, f14, f15, f16, f17, f18, f19, f20, f21, f22, f23, f24, f25, f26, f27, f28, f29⟩ := hΦ
                              refine ⟨fun _ => ?_, fun h => absurd h (by rw [Go.RE.wanted_none rfl]; decide)⟩
                              have d4 := f4 (hd 4 (by kernel_rfl))
                              have e155 : a.tmps[155]? = some (x 155) := hx 4 _ 155 rfl rfl (hd 4 (by kernel_rfl))
                              rw [d4] at e155
                              have d12 := f12 (hd 12 (by kernel_rfl))
                              have e163 : a.tmps[163]? = some (x 163) := hx 12 _ 163 rfl rfl (hd 12 (by kernel_rfl))
                              rw [d12] at e163
                              clear hf hx hd
                              go_simp
                              refine hK _ _ ?_
                              exact ⟨hI, fun h => f0 h, fun h => f1 h, fun h => f2 h, fun h => f3 h, fun h => f4 h, fun h => f5 h, fun h => f6 h, fun h => f7 h, fun h => f8 h, fun h => f9 h, fun h => f10 h, fun h => f11 h, fun h => f12 h, fun _ => rfl, fun h => f14 h, fun h => f15 h, fun h => f16 h, fun h => f17 h, fun h => f18 h, fun h => f19 h, fun h => f20 h, fun h => f21 h, fun h => f22 h, fun h => f23 h, fun h => f24 h, fun h => f25 h, fun h => f26 h, fun h => f27 h, fun h => f28 h, fun h => f29 h⟩
                            · intro L x a wR K hL hd hf hx hΦ hK
                              obtain ⟨hI, f0, f1, f2, f3, f4, f5, f6, f7, f8, f9, f10, f11, f12, f13, f14, f15, f16, f17, f18, f19, f20, f21, f22, f23, f24, f25, f26, f27, f28, f29⟩ := hΦ
                              refine ⟨fun _ => ?_, fun h => absurd h (by rw [Go.RE.wanted_none rfl]; decide)⟩
                              have d13 := f13 (hd 13 (by kernel_rfl))
                              have e164 : a.tmps[164]? = some (x 164) := hx 13 _ 164 rfl rfl (hd 13 (by kernel_rfl))
                              rw [d13] at e164
                              clear hf hx hd
                              go_simp
                              refine hK _ _ ?_
                              exact ⟨hI, fun h => f0 h, fun h => f1 h, fun h => f2 h, fun h => f3 h, fun h => f4 h, fun h => f5 h, fun h => f6 h, fun h => f7 h, fun h => f8 h, fun h => f9 h, fun h => f10 h, fun h => f11 h, fun h => f12 h, fun h => f13 h, fun _ => rfl, fun h => f15 h, fun h => f16 h, fun h => f17 h, fun h => f18 h, fun h => f19 h, fun h => f20 h, fun h => f21 h, fun h => f22 h, fun h => f23 h, fun h => f24 h, fun h => f25 h, fun h => f26 h, fun h => f27 h, fun h => f28 h, fun h => f29 h⟩
                            · intro L x a wR K hL hd hf hx hΦ hK
                              obtain ⟨hI, f0, f1, f2, f3, f4, f5, f6, f7, f8, f9, f10, f11, f12, f13, f14, f15, f16, f17, f18, f19, f20, f21, f22, f23, f24, f25, f26, f27, f28, f29⟩ := hΦ
                              have g14 := f14 (hd 14 (by kernel_rfl))
                              have ge : a.tmps[165]? = some (x 165) := hx 14 _ 165 rfl rfl (hd 14 (by kernel_rfl))
                              rw [g14] at ge
                              refine ⟨fun _ => ?_, fun h => absurd h (by rw [Go.RE.wanted_of rfl (Go.RE.yielded_of rfl rfl ge)]; decide)⟩
                              have e17 : a.tmps[17]? = some (.int .i64 (vd : Int)) := hf 17 (of_decide_eq_true (by kernel_rfl))
                              clear hf hx hd
                              go_simp
                              refine hK _ _ ?_
                              exact ⟨hI, fun h => f0 h, fun h => f1 h, fun h => f2 h, fun h => f3 h, fun h => f4 h, fun h => f5 h, fun h => f6 h, fun h => f7 h, fun h => f8 h, fun h => f9 h, fun h => f10 h, fun h => f11 h, fun h => f12 h, fun h => f13 h, fun h => f14 h, fun _ => rfl, fun h => f16 h, fun h => f17 h, fun h => f18 h, fun h => f19 h, fun h => f20 h, fun h => f21 h, fun h => f22 h, fun h => f23 h, fun h => f24 h, fun h => f25 h, fun h => f26 h, fun h => f27 h, fun h => f28 h, fun h => f29 h⟩
                            · intro L x a wR K hL hd hf hx hΦ hK
                              obtain ⟨hI, f0, f1, f2, f3, f4, f5, f6, f7, f8, f9, f10, f11, f12, f13, f14, f15, f16, f17, f18, f19, f20, f21, f22, f23, f24, f25, f26, f27, f28, f29⟩ := hΦ
                              have g14 := f14 (hd 14 (by kernel_rfl))
                              have ge : a.tmps[165]? = some (x 165) := hx 14 _ 165 rfl rfl (hd 14 (by kernel_rfl))
                              rw [g14] at ge
                              refine ⟨fun _ => ?_, fun h => absurd h (by rw [Go.RE.wanted_of rfl (Go.RE.yielded_of rfl rfl ge)]; decide)⟩
                              have e25 : a.tmps[25]? = some (.int .i64 (k : Int)) := hf 25 (of_decide_eq_true (by kernel_rfl))
                              clear hf hx hd
                              go_simp
                              refine hK _ _ ?_
                              exact ⟨hI, fun h => f0 h, fun h => f1 h, fun h => f2 h, fun h => f3 h, fun h => f4 h, fun h => f5 h, fun h => f6 h, fun h => f7 h, fun h => f8 h, fun h => f9 h, fun h => f10 h, fun h => f11 h, fun h => f12 h, fun h => f13 h, fun h => f14 h, fun h => f15 h, fun _ => rfl, fun h => f17 h, fun h => f18 h, fun h => f19 h, fun h => f20 h, fun h => f21 h, fun h => f22 h, fun h => f23 h, fun h => f24 h, fun h => f25 h, fun h => f26 h, fun h => f27 h, fun h => f28 h, fun h => f29 h⟩
                            · intro L x a wR K hL hd hf hx hΦ hK
                              obtain ⟨hI, f0, f1, f2, f3, f4, f5, f6, f7, f8, f9, f10, f11, f12, f13, f14, f15, f16, f17, f18, f19, f20, f21, f22, f23, f24, f25, f26, f27, f28, f29⟩ := hΦ
                              have g14 := f14 (hd 14 (by kernel_rfl))
                              have ge : a.tmps[165]? = some (x 165) := hx 14 _ 165 rfl rfl (hd 14 (by kernel_rfl))
                              rw [g14] at ge
                              refine ⟨fun _ => ?_, fun h => absurd h (by rw [Go.RE.wanted_of rfl (Go.RE.yielded_of rfl rfl ge)]; decide)⟩
                              have d15 := f15 (hd 15 (by kernel_rfl))
                              have e166 : a.tmps[166]? = some (x 166) := hx 15 _ 166 rfl rfl (hd 15 (by kernel_rfl))
                              rw [d15] at e166
                              have d16 := f16 (hd 16 (by kernel_rfl))
                              have e167 : a.tmps[167]? = some (x 167) := hx 16 _ 167 rfl rfl (hd 16 (by kernel_rfl))
                              rw [d16] at e167
                              have sh1 := HSH.out.2
                              have hmin := HMN.out
                              have b0 := HK0.out
                              clear hf hx hd
                              go_simp
                              refine hK _ _ ?_
                              exact ⟨hI, fun h => f0 h, fun h => f1 h, fun h => f2 h, fun h => f3 h, fun h => f4 h, fun h => f5 h, fun h => f6 h, fun h => f7 h, fun h => f8 h, fun h => f9 h, fun h => f10 h, fun h => f11 h, fun h => f12 h, fun h => f13 h, fun h => f14 h, fun h => f15 h, fun h => f16 h, fun _ => rfl, fun h => f18 h, fun h => f19 h, fun h => f20 h, fun h => f21 h, fun h => f22 h, fun h => f23 h, fun h => f24 h, fun h => f25 h, fun h => f26 h, fun h => f27 h, fun h => f28 h, fun h => f29 h⟩
                            · intro L x a wR K hL hd hf hx hΦ hK
                              obtain ⟨hI, f0, f1, f2, f3, f4, f5, f6, f7, f8, f9, f10, f11, f12, f13, f14, f15, f16, f17, f18, f19, f20, f21, f22, f23, f24, f25, f26, f27, f28, f29⟩ := hΦ
                              have g14 := f14 (hd 14 (by kernel_rfl))
                              have ge : a.tmps[165]? = some (x 165) := hx 14 _ 165 rfl rfl (hd 14 (by kernel_rfl))
                              rw [g14] at ge
                              refine ⟨fun _ => ?_, fun h => absurd h (by rw [Go.RE.wanted_of rfl (Go.RE.yielded_of rfl rfl ge)]; decide)⟩
                              have d17 := f17 (hd 17 (by kernel_rfl))
                              have e168 : a.tmps[168]? = some (x 168) := hx 17 _ 168 rfl rfl (hd 17 (by kernel_rfl))
                              rw [d17] at e168
                              have e1 := HB0.out
                              clear hf hx hd
                              go_simp
                              refine hK _ _ ?_
                              exact ⟨hI, fun h => f0 h, fun h => f1 h, fun h => f2 h, fun h => f3 h, fun h => f4 h, fun h => f5 h, fun h => f6 h, fun h => f7 h, fun h => f8 h, fun h => f9 h, fun h => f10 h, fun h => f11 h, fun h => f12 h, fun h => f13 h, fun h => f14 h, fun h => f15 h, fun h => f16 h, fun h => f17 h, fun _ => rfl, fun h => f19 h, fun h => f20 h, fun h => f21 h, fun h => f22 h, fun h => f23 h, fun h => f24 h, fun h => f25 h, fun h => f26 h, fun h => f27 h, fun h => f28 h, fun h => f29 h⟩
                            · intro L x a wR K hL hd hf hx hΦ hK
                              obtain ⟨hI, f0, f1, f2, f3, f4, f5, f6, f7, f8, f9, f10, f11, f12, f13, f14, f15, f16, f17, f18, f19, f20, f21, f22, f23, f24, f25, f26, f27, f28, f29⟩ := hΦ
                              have g14 := f14 (hd 14 (by kernel_rfl))
                              have ge : a.tmps[165]? = some (x 165) := hx 14 _ 165 rfl rfl (hd 14 (by kernel_rfl))
                              rw [g14] at ge
                              refine ⟨fun _ => ?_, fun h => absurd h (by rw [Go.RE.wanted_of rfl (Go.RE.yielded_of rfl rfl ge)]; decide)⟩
                              have d18 := f18 (hd 18 (by kernel_rfl))
                              have e169 : a.tmps[169]? = some (x 169) := hx 18 _ 169 rfl rfl (hd 18 (by kernel_rfl))
                              rw [d18] at e169
                              have ei : (((if bb = true then 1 else 0 : Int)) == 1) = bb := by cases bb <;> rfl
                              clear hf hx hd
                              go_simp
                              refine hK _ _ ?_
                              exact ⟨hI, fun h => f0 h, fun h => f1 h, fun h => f2 h, fun h => f3 h, fun h => f4 h, fun h => f5 h, fun h => f6 h, fun h => f7 h, fun h => f8 h, fun h => f9 h, fun h => f10 h, fun h => f11 h, fun h => f12 h, fun h => f13 h, fun h => f14 h, fun h => f15 h, fun h => f16 h, fun h => f17 h, fun h => f18 h, fun _ => rfl, fun h => f20 h, fun h => f21 h, fun h => f22 h, fun h => f23 h, fun h => f24 h, fun h => f25 h, fun h => f26 h, fun h => f27 h, fun h => f28 h, fun h => f29 h⟩
                            · intro L x a wR K hL hd hf hx hΦ hK
                              obtain ⟨hI, f0, f1, f2, f3, f4, f5, f6, f7, f8, f9, f10, f11, f12, f13, f14, f15, f16, f17, f18, f19, f20, f21, f22, f23, f24, f25, f26, f27, f28, f29⟩ := hΦ
                              have g14 := f14 (hd 14 (by kernel_rfl))
                              have ge : a.tmps[165]? = some (x 165) := hx 14 _ 165 rfl rfl (hd 14 (by kernel_rfl))
                              rw [g14] at ge
                              refine ⟨fun _ => ?_, fun h => absurd h (by rw [Go.RE.wanted_of rfl (Go.RE.yielded_of rfl rfl ge)]; decide)⟩
                              have e9 : a.tmps[9]? = some (.pointer (some ⟨B9, 0, none⟩)) := hf 9 (of_decide_eq_true (by kernel_rfl))
                              clear hf hx hd
                              go_simp
                              refine hK _ _ ?_
                              exact ⟨hI, fun h => f0 h, fun h => f1 h, fun h => f2 h, fun h => f3 h, fun h => f4 h, fun h => f5 h, fun h => f6 h, fun h => f7 h, fun h => f8 h, fun h => f9 h, fun h => f10 h, fun h => f11 h, fun h => f12 h, fun h => f13 h, fun h => f14 h, fun h => f15 h, fun h => f16 h, fun h => f17 h, fun h => f18 h, fun h => f19 h, fun _ => rfl, fun h => f21 h, fun h => f22 h, fun h => f23 h, fun h => f24 h, fun h => f25 h, fun h => f26 h, fun h => f27 h, fun h => f28 h, fun h => f29 h⟩
                            · intro L x a wR K hL hd hf hx hΦ hK
                              obtain ⟨hI, f0, f1, f2, f3, f4, f5, f6, f7, f8, f9, f10, f11, f12, f13, f14, f15, f16, f17, f18, f19, f20, f21, f22, f23, f24, f25, f26, f27, f28, f29⟩ := hΦ
                              have g14 := f14 (hd 14 (by kernel_rfl))
                              have ge : a.tmps[165]? = some (x 165) := hx 14 _ 165 rfl rfl (hd 14 (by kernel_rfl))
                              rw [g14] at ge
                              refine ⟨fun _ => ?_, fun h => absurd h (by rw [Go.RE.wanted_of rfl (Go.RE.yielded_of rfl rfl ge)]; decide)⟩
                              have d20 := f20 (hd 20 (by kernel_rfl))
                              have e171 : a.tmps[171]? = some (x 171) := hx 20 _ 171 rfl rfl (hd 20 (by kernel_rfl))
                              rw [d20] at e171
                              have c := HM2.out _ hI
                              clear hf hx hd
                              go_simp
                              refine hK _ _ ?_
                              exact ⟨hI, fun h => f0 h, fun h => f1 h, fun h => f2 h, fun h => f3 h, fun h => f4 h, fun h => f5 h, fun h => f6 h, fun h => f7 h, fun h => f8 h, fun h => f9 h, fun h => f10 h, fun h => f11 h, fun h => f12 h, fun h => f13 h, fun h => f14 h, fun h => f15 h, fun h => f16 h, fun h => f17 h, fun h => f18 h, fun h => f19 h, fun h => f20 h, fun _ => rfl, fun h => f22 h, fun h => f23 h, fun h => f24 h, fun h => f25 h, fun h => f26 h, fun h => f27 h, fun h => f28 h, fun h => f29 h⟩
                            · intro L x a wR K hL hd hf hx hΦ hK
                              obtain ⟨hI, f0, f1, f2, f3, f4, f5, f6, f7, f8, f9, f10, f11, f12, f13, f14, f15, f16, f17, f18, f19, f20, f21, f22, f23, f24, f25, f26, f27, f28, f29⟩ := hΦ
                              have g14 := f14 (hd 14 (by kernel_rfl))
                              have ge : a.tmps[165]? = some (x 165) := hx 14 _ 165 rfl rfl (hd 14 (by kernel_rfl))
                              rw [g14] at ge
                              refine ⟨fun _ => ?_, fun h => absurd h (by rw [Go.RE.wanted_of rfl (Go.RE.yielded_of rfl rfl ge)]; decide)⟩
                              have e25 : a.tmps[25]? = some (.int .i64 (k : Int)) := hf 25 (of_decide_eq_true (by kernel_rfl))
                              clear hf hx hd
                              go_simp
                              refine hK _ _ ?_
                              exact ⟨hI, fun h => f0 h, fun h => f1 h, fun h => f2 h, fun h => f3 h, fun h => f4 h, fun h => f5 h, fun h => f6 h, fun h => f7 h, fun h => f8 h, fun h => f9 h, fun h => f10 h, fun h => f11 h, fun h => f12 h, fun h => f13 h, fun h => f14 h, fun h => f15 h, fun h => f16 h, fun h => f17 h, fun h => f18 h, fun h => f19 h, fun h => f20 h, fun h => f21 h, fun _ => rfl, fun h => f23 h, fun h => f24 h, fun h => f25 h, fun h => f26 h, fun h => f27 h, fun h => f28 h, fun h => f29 h⟩
                            · intro L x a wR K hL hd hf hx hΦ hK
                              obtain ⟨hI, f0, f1, f2, f3, f4, f5, f6, f7, f8, f9, f10, f11, f12, f13, f14, f15, f16, f17, f18, f19, f20, f21, f22, f23, f24, f25, f26, f27, f28, f29⟩ := hΦ
                              have g14 := f14 (hd 14 (by kernel_rfl))
                              have ge : a.tmps[165]? = some (x 165) := hx 14 _ 165 rfl rfl (hd 14 (by kernel_rfl))
                              rw [g14] at ge
                              refine ⟨fun _ => ?_, fun h => absurd h (by rw [Go.RE.wanted_of rfl (Go.RE.yielded_of rfl rfl ge)]; decide)⟩
                              have d21 := f21 (hd 21 (by kernel_rfl))
                              have e172 : a.tmps[172]? = some (x 172) := hx 21 _ 172 rfl rfl (hd 21 (by kernel_rfl))
                              rw [d21] at e172
                              have d22 := f22 (hd 22 (by kernel_rfl))
                              have e173 : a.tmps[173]? = some (x 173) := hx 22 _ 173 rfl rfl (hd 22 (by kernel_rfl))
                              rw [d22] at e173
                              have l1 := HK0.out
                              have l2 := HK1.out
                              clear hf hx hd
                              go_simp
                              refine hK _ _ ?_
                              exact ⟨hI, fun h => f0 h, fun h => f1 h, fun h => f2 h, fun h => f3 h, fun h => f4 h, fun h => f5 h, fun h => f6 h, fun h => f7 h, fun h => f8 h, fun h => f9 h, fun h => f10 h, fun h => f11 h, fun h => f12 h, fun h => f13 h, fun h => f14 h, fun h => f15 h, fun h => f16 h, fun h => f17 h, fun h => f18 h, fun h => f19 h, fun h => f20 h, fun h => f21 h, fun h => f22 h, fun _ => rfl, fun h => f24 h, fun h => f25 h, fun h => f26 h, fun h => f27 h, fun h => f28 h, fun h => f29 h⟩
                            · intro L x a wR K hL hd hf hx hΦ hK
                              obtain ⟨hI, f0, f1, f2, f3, f4, f5, f6, f7, f8, f9, f10, f11, f12, f13, f14, f15, f16, f17, f18, f19, f20, f21, f22, f23, f24, f25, f26, f27, f28, f29⟩ := hΦ
                              have g14 := f14 (hd 14 (by kernel_rfl))
                              have ge : a.tmps[165]? = some (x 165) := hx 14 _ 165 rfl rfl (hd 14 (by kernel_rfl))
                              rw [g14] at ge
                              refine ⟨fun _ => ?_, fun h => absurd h (by rw [Go.RE.wanted_of rfl (Go.RE.yielded_of rfl rfl ge)]; decide)⟩
                              have d23 := f23 (hd 23 (by kernel_rfl))
                              have e174 : a.tmps[174]? = some (x 174) := hx 23 _ 174 rfl rfl (hd 23 (by kernel_rfl))
                              rw [d23] at e174
                              have c := HRK.out _ hI
                              clear hf hx hd
                              go_simp
                              refine hK _ _ ?_
                              exact ⟨hI, fun h => f0 h, fun h => f1 h, fun h => f2 h, fun h => f3 h, fun h => f4 h, fun h => f5 h, fun h => f6 h, fun h => f7 h, fun h => f8 h, fun h => f9 h, fun h => f10 h, fun h => f11 h, fun h => f12 h, fun h => f13 h, fun h => f14 h, fun h => f15 h, fun h => f16 h, fun h => f17 h, fun h => f18 h, fun h => f19 h, fun h => f20 h, fun h => f21 h, fun h => f22 h, fun h => f23 h, fun _ => rfl, fun h => f25 h, fun h => f26 h, fun h => f27 h, fun h => f28 h, fun h => f29 h⟩
                            · intro L x a wR K hL hd hf hx hΦ hK
                              obtain ⟨hI, f0, f1, f2, f3, f4, f5, f6, f7, f8, f9, f10, f11, f12, f13, f14, f15, f16, f17, f18, f19, f20, f21, f22, f23, f24, f25, f26, f27, f28, f29⟩ := hΦ
                              have g14 := f14 (hd 14 (by kernel_rfl))
                              have ge : a.tmps[165]? = some (x 165) := hx 14 _ 165 rfl rfl (hd 14 (by kernel_rfl))
                              rw [g14] at ge
                              refine ⟨fun _ => ?_, fun h => absurd h (by rw [Go.RE.wanted_of rfl (Go.RE.yielded_of rfl rfl ge)]; decide)⟩
                              have e13 : a.tmps[13]? = some (.int .i64 (va : Int)) := hf 13 (of_decide_eq_true (by kernel_rfl))
                              clear hf hx hd
                              go_simp
                              refine hK _ _ ?_
                              exact ⟨hI, fun h => f0 h, fun h => f1 h, fun h => f2 h, fun h => f3 h, fun h => f4 h, fun h => f5 h, fun h => f6 h, fun h => f7 h, fun h => f8 h, fun h => f9 h, fun h => f10 h, fun h => f11 h, fun h => f12 h, fun h => f13 h, fun h => f14 h, fun h => f15 h, fun h => f16 h, fun h => f17 h, fun h => f18 h, fun h => f19 h, fun h => f20 h, fun h => f21 h, fun h => f22 h, fun h => f23 h, fun h => f24 h, fun _ => rfl, fun h => f26 h, fun h => f27 h, fun h => f28 h, fun h => f29 h⟩
                            · intro L x a wR K hL hd hf hx hΦ hK
                              obtain ⟨hI, f0, f1, f2, f3, f4, f5, f6, f7, f8, f9, f10, f11, f12, f13, f14, f15, f16, f17, f18, f19, f20, f21, f22, f23, f24, f25, f26, f27, f28, f29⟩ := hΦ
                              have g14 := f14 (hd 14 (by kernel_rfl))
                              have ge : a.tmps[165]? = some (x 165) := hx 14 _ 165 rfl rfl (hd 14 (by kernel_rfl))
                              rw [g14] at ge
                              refine ⟨fun _ => ?_, fun h => absurd h (by rw [Go.RE.wanted_of rfl (Go.RE.yielded_of rfl rfl ge)]; decide)⟩
                              have d24 := f24 (hd 24 (by kernel_rfl))
                              have e175 : a.tmps[175]? = some (x 175) := hx 24 _ 175 rfl rfl (hd 24 (by kernel_rfl))
                              rw [d24] at e175
                              have d25 := f25 (hd 25 (by kernel_rfl))
                              have e176 : a.tmps[176]? = some (x 176) := hx 25 _ 176 rfl rfl (hd 25 (by kernel_rfl))
                              rw [d25] at e176
                              have e1 := HRB.out
                              clear hf hx hd
                              go_simp
                              refine hK _ _ ?_
                              exact ⟨hI, fun h => f0 h, fun h => f1 h, fun h => f2 h, fun h => f3 h, fun h => f4 h, fun h => f5 h, fun h => f6 h, fun h => f7 h, fun h => f8 h, fun h => f9 h, fun h => f10 h, fun h => f11 h, fun h => f12 h, fun h => f13 h, fun h => f14 h, fun h => f15 h, fun h => f16 h, fun h => f17 h, fun h => f18 h, fun h => f19 h, fun h => f20 h, fun h => f21 h, fun h => f22 h, fun h => f23 h, fun h => f24 h, fun h => f25 h, fun _ => rfl, fun h => f27 h, fun h => f28 h, fun h => f29 h⟩
                            · intro L x a wR K hL hd hf hx hΦ hK
                              obtain ⟨hI, f0, f1, f2, f3, f4, f5, f6, f7, f8, f9, f10, f11, f12, f13, f14, f15, f16, f17, f18, f19, f20, f21, f22, f23, f24, f25, f26, f27, f28, f29⟩ := hΦ
                              have g14 := f14 (hd 14 (by kernel_rfl))
                              have ge : a.tmps[165]? = some (x 165) := hx 14 _ 165 rfl rfl (hd 14 (by kernel_rfl))
                              rw [g14] at ge
                              refine ⟨fun _ => ?_, fun h => absurd h (by rw [Go.RE.wanted_of rfl (Go.RE.yielded_of rfl rfl ge)]; decide)⟩
                              have d26 := f26 (hd 26 (by kernel_rfl))
                              have e177 : a.tmps[177]? = some (x 177) := hx 26 _ 177 rfl rfl (hd 26 (by kernel_rfl))
                              rw [d26] at e177
                              have e1 := HZB.out
                              clear hf hx hd
                              go_simp
                              refine hK _ _ ?_
                              exact ⟨hI, fun h => f0 h, fun h => f1 h, fun h => f2 h, fun h => f3 h, fun h => f4 h, fun h => f5 h, fun h => f6 h, fun h => f7 h, fun h => f8 h, fun h => f9 h, fun h => f10 h, fun h => f11 h, fun h => f12 h, fun h => f13 h, fun h => f14 h, fun h => f15 h, fun h => f16 h, fun h => f17 h, fun h => f18 h, fun h => f19 h, fun h => f20 h, fun h => f21 h, fun h => f22 h, fun h => f23 h, fun h => f24 h, fun h => f25 h, fun h => f26 h, fun _ => rfl, fun h => f28 h, fun h => f29 h⟩
                            · intro L x a wR K hL hd hf hx hΦ hK
                              obtain ⟨hI, f0, f1, f2, f3, f4, f5, f6, f7, f8, f9, f10, f11, f12, f13, f14, f15, f16, f17, f18, f19, f20, f21, f22, f23, f24, f25, f26, f27, f28, f29⟩ := hΦ
                              have g14 := f14 (hd 14 (by kernel_rfl))
                              have ge : a.tmps[165]? = some (x 165) := hx 14 _ 165 rfl rfl (hd 14 (by kernel_rfl))
                              rw [g14] at ge
                              refine ⟨fun _ => ?_, fun h => absurd h (by rw [Go.RE.wanted_of rfl (Go.RE.yielded_of rfl rfl ge)]; decide)⟩
                              have d19 := f19 (hd 19 (by kernel_rfl))
                              have e170 : a.tmps[170]? = some (x 170) := hx 19 _ 170 rfl rfl (hd 19 (by kernel_rfl))
                              rw [d19] at e170
                              have d27 := f27 (hd 27 (by kernel_rfl))
                              have e178 : a.tmps[178]? = some (x 178) := hx 27 _ 178 rfl rfl (hd 27 (by kernel_rfl))
                              rw [d27] at e178
                              clear hf hx hd
                              go_simp
                              refine hK _ _ ?_
                              exact ⟨hI, fun h => f0 h, fun h => f1 h, fun h => f2 h, fun h => f3 h, fun h => f4 h, fun h => f5 h, fun h => f6 h, fun h => f7 h, fun h => f8 h, fun h => f9 h, fun h => f10 h, fun h => f11 h, fun h => f12 h, fun h => f13 h, fun h => f14 h, fun h => f15 h, fun h => f16 h, fun h => f17 h, fun h => f18 h, fun h => f19 h, fun h => f20 h, fun h => f21 h, fun h => f22 h, fun h => f23 h, fun h => f24 h, fun h => f25 h, fun h => f26 h, fun h => f27 h, fun _ => rfl, fun h => f29 h⟩
                            · intro L x a wR K hL hd hf hx hΦ hK
                              obtain ⟨hI, f0, f1, f2, f3, f4, f5, f6, f7, f8, f9, f10, f11, f12, f13, f14, f15, f16, f17, f18, f19, f20, f21, f22, f23, f24, f25, f26, f27, f28, f29⟩ := hΦ
                              refine ⟨fun _ => ?_, fun h => absurd h (by rw [Go.RE.wanted_none rfl]; decide)⟩
                              have d14 := f14 (hd 14 (by kernel_rfl))
                              have e165 : a.tmps[165]? = some (x 165) := hx 14 _ 165 rfl rfl (hd 14 (by kernel_rfl))
                              rw [d14] at e165
                              have d28 := f28 (hd 28 (by kernel_rfl))
                              have e179 : a.tmps[179]? = some (x 179) := hx 28 _ 179 rfl rfl (hd 28 (by kernel_rfl))
                              rw [d28] at e179
                              clear hf hx hd
                              go_simp
                              refine hK _ _ ?_
                              exact ⟨hI, fun h => f0 h, fun h => f1 h, fun h => f2 h, fun h => f3 h, fun h => f4 h, fun h => f5 h, fun h => f6 h, fun h => f7 h, fun h => f8 h, fun h => f9 h, fun h => f10 h, fun h => f11 h, fun h => f12 h, fun h => f13 h, fun h => f14 h, fun h => f15 h, fun h => f16 h, fun h => f17 h, fun h => f18 h, fun h => f19 h, fun h => f20 h, fun h => f21 h, fun h => f22 h, fun h => f23 h, fun h => f24 h, fun h => f25 h, fun h => f26 h, fun h => f27 h, fun h => f28 h, fun _ => rfl⟩
                            · rintro x W ⟨hI, f0, f1, f2, f3, f4, f5, f6, f7, f8, f9, f10, f11, f12, f13, f14, f15, f16, f17, f18, f19, f20, f21, f22, f23, f24, f25, f26, f27, f28, f29⟩
                              simp only [Exit.then]
                              go_step
                              go_meet
                              exact ⟨f29 rfl, hI⟩
                          case rest =>
                            obtain ⟨rfl, hB2⟩ := hcut
                            have HB2 := Lib.hid hB2
                            clear hB2
                            go_wp2_with (fail)
                            go_roundw
                            case rel => exact ⟨k + 1, by omega, by go_num, below_tr HB.out HB2.out⟩
                            case measure => simp [intOf]; omega
                        · obtain rfl : r1 = k := by omega
                          go_wp2_with (fail)
                          go_ret
                          exact ⟨rfl, below_tr HBL.out HB.out⟩
end Go.Proofs.YtflmllablfjfeaaDoor
