/- Frame: the walk of FrameCloser (8). clw.py prints this text. -/
import Derived.Test.YtflmllablfjfeaaDoorClq
namespace Go.Proofs.YtflmllablfjfeaaDoor
open Go.RowKit Go.HK Go.FR
set_option linter.unusedVariables false
set_option linter.unusedSimpArgs false
set_option linter.unusedSectionVars false
theorem own_drew {W : World} {b e size n : Nat} {v : Value} {xs : List Value} (h : W.ownsRow b e size v n xs) : W.drew.ownsRow b e size v n xs := h
theorem same_rows {W : World} {b g k b' g' k' n m : Nat} {xs ys : List Nat} (h : W.ownsRow b 3 1 (.slice (some ⟨g, 0, none⟩) n k) n (ints xs)) (h' : W.ownsRow b' 3 1 (.slice (some ⟨g', 0, none⟩) m k') m (ints ys)) (hn : xs.length = n) (hm : ys.length = m) (hl : n ≤ 4) : Calls Tryd.prog 27 #[.slice (some ⟨g, 0, none⟩) n k, .slice (some ⟨g', 0, none⟩) m k'] W (RetW W (decide (xs = ys))) := by
  have := same_call W ⟨some ⟨g, 0, none⟩, n, k⟩ ⟨some ⟨g', 0, none⟩, m, k'⟩ (xs.map fun x : Nat => (x : Int)) (ys.map fun x : Nat => (x : Int)) (S := fun _ => True) (T := fun _ => True) ⟨by rw [List.length_map]; exact hn.symm, fun i u hu => ⟨g, 0, rfl, trivial, (isR_own h).z i u hu⟩⟩ ⟨by rw [List.length_map]; exact hm.symm, fun i u hu => ⟨g', 0, rfl, trivial, (isR_own h').z i u hu⟩⟩ (by rw [List.length_map]; omega)
  have e : decide ((xs.map fun x : Nat => (x : Int)) = ys.map fun x : Nat => (x : Int)) = decide (xs = ys) := by
    have hi : ∀ x y : Nat, (x : Int) = (y : Int) → x = y := fun x y h => by omega
    have : ((xs.map fun x : Nat => (x : Int)) = ys.map fun x : Nat => (x : Int)) ↔ xs = ys := ⟨fun h => (List.map_inj_right (fun x y h => hi x y h)).1 h, fun h => by rw [h]⟩
    exact decide_eq_decide.2 this
  rw [e] at this
  exact this
set_option maxRecDepth 100000 in
set_option maxHeartbeats 16000000 in
theorem closer_walk (w : World) (s : Nat) (F G : Nat → Nat) (cc : Nat) (hrw : IsRows w) (hs : s < 256) (hF : ∀ i, F i < 256) (hG : ∀ i, G i < 256) (hcc : cc < 256) :
    Calls Tryd.prog 8 #[.int .u8 (s : Int), .agg (sevenV F), .agg (sevenV G), .int .u8 (cc : Int)] w (RetW w true) := by
  obtain ⟨n, hn⟩ : ∃ n, n = 1 + s % 4 := ⟨_, rfl⟩
  have h1 : 1 ≤ n := by omega
  have h4 : n ≤ 4 := by omega
  obtain ⟨rl, hrl⟩ : ∃ rl, rl = madeR n F n := ⟨_, rfl⟩
  obtain ⟨ol, hol⟩ : ∃ ol, ol = madeR n G n := ⟨_, rfl⟩
  obtain ⟨c, hc⟩ : ∃ c, c = cc % 8 := ⟨_, rfl⟩
  have hro : FrOk rl := by rw [hrl]; exact madeQ_ok n h1 h4 F
  have hoo : FrOk ol := by rw [hol]; exact madeQ_ok n h1 h4 G
  have hlr : rl.length = n := by rw [hrl]; exact madeR_len n F n
  have hlo : ol.length = n := by rw [hol]; exact madeR_len n G n
  have HC8 : Hid ((cc : Int) % 8 = (c : Int) ∧ c ≤ 7) := Lib.hid (by omega)
  have HRO := Lib.hid hro
  have HOO := Lib.hid hoo
  have HLR := Lib.hid hlr
  have HLO := Lib.hid hlo
  have HN14 := Lib.hid (And.intro h1 h4)
  have HMA : Hid (∀ q, Calls Tryd.prog 19 #[.int .u8 (s : Int), .agg #[.int .u8 (F 0 : Nat), .int .u8 (F 1 : Nat), .int .u8 (F 2 : Nat), .int .u8 (F 3 : Nat), .int .u8 (F 4 : Nat), .int .u8 (F 5 : Nat), .int .u8 (F 6 : Nat)]] q (RetMo q 4 n rl [F 4 % 2 ^ n, F 5 % 2 ^ n, F 6 % 2 ^ n])) := Lib.hid fun q => by
    have := made_call q s F hs hF
    rw [← hn, ← hrl] at this
    exact this
  have HMB : Hid (∀ q, Calls Tryd.prog 19 #[.int .u8 (s : Int), .agg #[.int .u8 (G 0 : Nat), .int .u8 (G 1 : Nat), .int .u8 (G 2 : Nat), .int .u8 (G 3 : Nat), .int .u8 (G 4 : Nat), .int .u8 (G 5 : Nat), .int .u8 (G 6 : Nat)]] q (RetMo q 4 n ol [G 4 % 2 ^ n, G 5 % 2 ^ n, G 6 % 2 ^ n])) := Lib.hid fun q => by
    have := made_call q s G hs hG
    rw [← hn, ← hol] at this
    exact this
  have hw1 : ∀ o o2, Below w.heap.size w ((w.alloc o).alloc o2) := fun o o2 => below_tr (below_alloc w o) (below_alloc _ _)
  have HAW : Hid (∀ o o2, Calls Tryd.prog 12 #[] ((w.alloc o).alloc o2) (RetW ((w.alloc o).alloc o2) true)) := Lib.hid fun o o2 => awake_call _ (hrw.below (hw1 o o2))
  unfold RetW at HAW
  unfold RetMo at HMA HMB
  have HRW0 := Lib.hid hrw
  clear hn hrl hol hc hro hoo hlr hlo hs hF hG hcc hw1 hrw h1 h4
  show Calls Tryd.prog 8 #[.int .u8 (s : Int), .agg #[.int .u8 (F 0 : Nat), .int .u8 (F 1 : Nat), .int .u8 (F 2 : Nat), .int .u8 (F 3 : Nat), .int .u8 (F 4 : Nat), .int .u8 (F 5 : Nat), .int .u8 (F 6 : Nat)], .agg #[.int .u8 (G 0 : Nat), .int .u8 (G 1 : Nat), .int .u8 (G 2 : Nat), .int .u8 (G 3 : Nat), .int .u8 (G 4 : Nat), .int .u8 (G 5 : Nat), .int .u8 (G 6 : Nat)], .int .u8 (cc : Int)] w _
  go_enter Tryd.func8, Tryd.ntmps8
  go_upto_region 3 with (go_at_call 12; ((with_reducible refine (HAW.out _ _).mono ?_); rintro e q0 ⟨rfl, hB⟩))
  have HSV1 : Hid (∀ W, Below q0.heap.size q0 W → W.heap[w.heap.size]? = some (.cells #[.int .u8 (F 0 : Nat), .int .u8 (F 1 : Nat), .int .u8 (F 2 : Nat), .int .u8 (F 3 : Nat), .int .u8 (F 4 : Nat), .int .u8 (F 5 : Nat), .int .u8 (F 6 : Nat)] 22 (0, 0))) := Lib.hid fun W h => blk_up9 h ((hB.block w.heap.size (by simp; omega)).trans (HK.blk_alloc (HK.blk_new w _) _))
  have HSV2 : Hid (∀ W, Below q0.heap.size q0 W → W.heap[w.heap.size + 1]? = some (.cells #[.int .u8 (G 0 : Nat), .int .u8 (G 1 : Nat), .int .u8 (G 2 : Nat), .int .u8 (G 3 : Nat), .int .u8 (G 4 : Nat), .int .u8 (G 5 : Nat), .int .u8 (G 6 : Nat)] 22 (0, 0))) := Lib.hid fun W h => blk_up9 h ((hB.block (w.heap.size + 1) (by simp)).trans (by have := HK.blk_new (w.alloc (.cells (sevenV F) 22)) (.cells (sevenV G) 22); rwa [World.size_alloc] at this))
  have HBL := Lib.hid (below_tr (below_tr (below_alloc w _) (below_alloc _ _)) hB)
  clear hB
  go_cut [9, 10] from 21 to 28 (fun u v wx => ∃ g k g' k', u = .slice (some ⟨g, 0, none⟩) n k ∧ v = .slice (some ⟨g', 0, none⟩) n k' ∧ wx.ownsRow q0.heap.size 3 1 (.slice (some ⟨g, 0, none⟩) n k) n (ints rl) ∧ wx.ownsRow q0.heap.size 3 1 (.slice (some ⟨g', 0, none⟩) n k') n (ints ol) ∧ g ≠ g' ∧ Below q0.heap.size q0 wx)
  case first =>
    refine Go.RE.wp_region_eachg [21, 22, 23, 24, 25, 26, 27, 28, 9, 10] (fun L x W => (Below q0.heap.size q0 W) ∧ (L 0 = true → x 21 = .int .u8 (s : Int)) ∧ (L 1 = true → x 22 = .agg #[.int .u8 (F 0 : Nat), .int .u8 (F 1 : Nat), .int .u8 (F 2 : Nat), .int .u8 (F 3 : Nat), .int .u8 (F 4 : Nat), .int .u8 (F 5 : Nat), .int .u8 (F 6 : Nat)]) ∧ (L 2 = true → MoV q0.heap.size (L 6) (x 27) n rl W (x 23)) ∧ (L 3 = true → L 2 = true ∧ SlV q0.heap.size n rl (x 23) W (x 24)) ∧ (L 4 = true → x 25 = .int .u8 (s : Int)) ∧ (L 5 = true → x 26 = .agg #[.int .u8 (G 0 : Nat), .int .u8 (G 1 : Nat), .int .u8 (G 2 : Nat), .int .u8 (G 3 : Nat), .int .u8 (G 4 : Nat), .int .u8 (G 5 : Nat), .int .u8 (G 6 : Nat)]) ∧ (L 6 = true → MoV q0.heap.size (L 2) (x 23) n ol W (x 27)) ∧ (L 7 = true → L 6 = true ∧ SlV q0.heap.size n ol (x 27) W (x 28)) ∧ (L 8 = true → L 2 = true ∧ SlV q0.heap.size n rl (x 23) W (x 9)) ∧ (L 9 = true → L 6 = true ∧ SlV q0.heap.size n ol (x 27) W (x 10))) (by kernel_rfl) (by kernel_rfl) (by kernel_rfl) ?_ ((Go.RE.Each.cons ?_ (Go.RE.Each.cons ?_ (Go.RE.Each.cons ?_ (Go.RE.Each.cons ?_ (Go.RE.Each.cons ?_ (Go.RE.Each.cons ?_ (Go.RE.Each.cons ?_ (Go.RE.Each.cons ?_ (Go.RE.Each.cons ?_ (Go.RE.Each.cons ?_ Go.RE.Each.nil))))))))))) ?_
    · exact fun x => ⟨bl_dr (Below.refl _ _), fun h => (by cases h), fun h => (by cases h), fun h => (by cases h), fun h => (by cases h), fun h => (by cases h), fun h => (by cases h), fun h => (by cases h), fun h => (by cases h), fun h => (by cases h), fun h => (by cases h)⟩
    · intro L x a wR K hL hd hf hx hΦ hK
      obtain ⟨hI, f0, f1, f2, f3, f4, f5, f6, f7, f8, f9⟩ := hΦ
      refine ⟨fun _ => ?_, fun h => absurd h (by rw [Go.RE.wanted_none rfl]; decide)⟩
      have e0 : a.tmps[0]? = some (.int .u8 (s : Int)) := hf 0 (of_decide_eq_true (by kernel_rfl))
      clear hf hx hd
      go_simp
      refine hK _ _ ?_
      exact ⟨hI, fun _ => rfl, fun h => f1 h, fun h => f2 h, fun h => f3 h, fun h => f4 h, fun h => f5 h, fun h => f6 h, fun h => f7 h, fun h => f8 h, fun h => f9 h⟩
    · intro L x a wR K hL hd hf hx hΦ hK
      obtain ⟨hI, f0, f1, f2, f3, f4, f5, f6, f7, f8, f9⟩ := hΦ
      refine ⟨fun _ => ?_, fun h => absurd h (by rw [Go.RE.wanted_none rfl]; decide)⟩
      have e5 : a.tmps[5]? = some (.pointer (some ⟨w.heap.size, 0, none⟩)) := hf 5 (of_decide_eq_true (by kernel_rfl))
      have cc := HK.blk_cell (HSV1.out _ hI)
      have c0 := cc 0
      have c1 := cc 1
      have c2 := cc 2
      have c3 := cc 3
      have c4 := cc 4
      have c5 := cc 5
      have c6 := cc 6
      clear cc
      clear hf hx hd
      go_simp
      refine hK _ _ ?_
      exact ⟨hI, fun h => f0 h, fun _ => rfl, fun h => f2 h, fun h => f3 h, fun h => f4 h, fun h => f5 h, fun h => f6 h, fun h => f7 h, fun h => f8 h, fun h => f9 h⟩
    · intro L x a wR K hL hd hf hx hΦ hK
      obtain ⟨hI, f0, f1, f2, f3, f4, f5, f6, f7, f8, f9⟩ := hΦ
      refine ⟨fun _ => ?_, fun h => absurd h (by rw [Go.RE.wanted_none rfl]; decide)⟩
      have d0 := f0 (hd 0 (by kernel_rfl))
      have e21 : a.tmps[21]? = some (x 21) := hx 0 _ 21 rfl rfl (hd 0 (by kernel_rfl))
      rw [d0] at e21
      have d1 := f1 (hd 1 (by kernel_rfl))
      have e22 : a.tmps[22]? = some (x 22) := hx 1 _ 22 rfl rfl (hd 1 (by kernel_rfl))
      rw [d1] at e22
      clear hf hx hd
      go_simp
      go_at_call 19
      with_reducible refine (HMA.out _).mono ?_
      rintro e w' ⟨g, k, fg, fk, rfl, hB8, ho1, ho2⟩
      refine hK _ _ ?_
      exact ⟨below_tr hI hB8, fun h => f0 h, fun h => f1 h, fun _ => ⟨g, k, _, _, _, _, _, _, rfl, own_mono9 ho1 hI.size, (fun h => (f6 h).ne ho1)⟩, fun h => by have hh := f3 h; simp [hL] at hh, fun h => f4 h, fun h => f5 h, fun h => (f6 h).other ho1 hB8, fun h => ⟨(f7 h).1, (f7 h).2.below hB8⟩, fun h => by have hh := f8 h; simp [hL] at hh, fun h => ⟨(f9 h).1, (f9 h).2.below hB8⟩⟩
    · intro L x a wR K hL hd hf hx hΦ hK
      obtain ⟨hI, f0, f1, f2, f3, f4, f5, f6, f7, f8, f9⟩ := hΦ
      refine ⟨fun _ => ?_, fun h => absurd h (by rw [Go.RE.wanted_none rfl]; decide)⟩
      have d2 := f2 (hd 2 (by kernel_rfl))
      have e23 : a.tmps[23]? = some (x 23) := hx 2 _ 23 rfl rfl (hd 2 (by kernel_rfl))
      have r2 := hd 2 (by kernel_rfl)
      clear hf hx hd
      obtain ⟨g, k, z0, z1, z3, z4, z5, z6, hv, ho, hd9⟩ := d2
      rw [hv] at e23
      go_simp
      refine hK _ _ ?_
      exact ⟨hI, fun h => f0 h, fun h => f1 h, fun h => f2 h, fun _ => ⟨r2, g, k, rfl, ho, (congrArg rb hv).trans rfl⟩, fun h => f4 h, fun h => f5 h, fun h => f6 h, fun h => f7 h, fun h => f8 h, fun h => f9 h⟩
    · intro L x a wR K hL hd hf hx hΦ hK
      obtain ⟨hI, f0, f1, f2, f3, f4, f5, f6, f7, f8, f9⟩ := hΦ
      refine ⟨fun _ => ?_, fun h => absurd h (by rw [Go.RE.wanted_none rfl]; decide)⟩
      have e0 : a.tmps[0]? = some (.int .u8 (s : Int)) := hf 0 (of_decide_eq_true (by kernel_rfl))
      clear hf hx hd
      go_simp
      refine hK _ _ ?_
      exact ⟨hI, fun h => f0 h, fun h => f1 h, fun h => f2 h, fun h => f3 h, fun _ => rfl, fun h => f5 h, fun h => f6 h, fun h => f7 h, fun h => f8 h, fun h => f9 h⟩
    · intro L x a wR K hL hd hf hx hΦ hK
      obtain ⟨hI, f0, f1, f2, f3, f4, f5, f6, f7, f8, f9⟩ := hΦ
      refine ⟨fun _ => ?_, fun h => absurd h (by rw [Go.RE.wanted_none rfl]; decide)⟩
      have e6 : a.tmps[6]? = some (.pointer (some ⟨w.heap.size + 1, 0, none⟩)) := hf 6 (of_decide_eq_true (by kernel_rfl))
      have cc := HK.blk_cell (HSV2.out _ hI)
      have c0 := cc 0
      have c1 := cc 1
      have c2 := cc 2
      have c3 := cc 3
      have c4 := cc 4
      have c5 := cc 5
      have c6 := cc 6
      clear cc
      clear hf hx hd
      go_simp
      refine hK _ _ ?_
      exact ⟨hI, fun h => f0 h, fun h => f1 h, fun h => f2 h, fun h => f3 h, fun h => f4 h, fun _ => rfl, fun h => f6 h, fun h => f7 h, fun h => f8 h, fun h => f9 h⟩
    · intro L x a wR K hL hd hf hx hΦ hK
      obtain ⟨hI, f0, f1, f2, f3, f4, f5, f6, f7, f8, f9⟩ := hΦ
      refine ⟨fun _ => ?_, fun h => absurd h (by rw [Go.RE.wanted_none rfl]; decide)⟩
      have d4 := f4 (hd 4 (by kernel_rfl))
      have e25 : a.tmps[25]? = some (x 25) := hx 4 _ 25 rfl rfl (hd 4 (by kernel_rfl))
      rw [d4] at e25
      have d5 := f5 (hd 5 (by kernel_rfl))
      have e26 : a.tmps[26]? = some (x 26) := hx 5 _ 26 rfl rfl (hd 5 (by kernel_rfl))
      rw [d5] at e26
      clear hf hx hd
      go_simp
      go_at_call 19
      with_reducible refine (HMB.out _).mono ?_
      rintro e w' ⟨g, k, fg, fk, rfl, hB8, ho1, ho2⟩
      refine hK _ _ ?_
      exact ⟨below_tr hI hB8, fun h => f0 h, fun h => f1 h, fun h => (f2 h).other ho1 hB8, fun h => ⟨(f3 h).1, (f3 h).2.below hB8⟩, fun h => f4 h, fun h => f5 h, fun _ => ⟨g, k, _, _, _, _, _, _, rfl, own_mono9 ho1 hI.size, (fun h => (f2 h).ne ho1)⟩, fun h => by have hh := f7 h; simp [hL] at hh, fun h => ⟨(f8 h).1, (f8 h).2.below hB8⟩, fun h => by have hh := f9 h; simp [hL] at hh⟩
    · intro L x a wR K hL hd hf hx hΦ hK
      obtain ⟨hI, f0, f1, f2, f3, f4, f5, f6, f7, f8, f9⟩ := hΦ
      refine ⟨fun _ => ?_, fun h => absurd h (by rw [Go.RE.wanted_none rfl]; decide)⟩
      have d6 := f6 (hd 6 (by kernel_rfl))
      have e27 : a.tmps[27]? = some (x 27) := hx 6 _ 27 rfl rfl (hd 6 (by kernel_rfl))
      have r6 := hd 6 (by kernel_rfl)
      clear hf hx hd
      obtain ⟨g, k, z0, z1, z3, z4, z5, z6, hv, ho, hd9⟩ := d6
      rw [hv] at e27
      go_simp
      refine hK _ _ ?_
      exact ⟨hI, fun h => f0 h, fun h => f1 h, fun h => f2 h, fun h => f3 h, fun h => f4 h, fun h => f5 h, fun h => f6 h, fun _ => ⟨r6, g, k, rfl, ho, (congrArg rb hv).trans rfl⟩, fun h => f8 h, fun h => f9 h⟩
    · intro L x a wR K hL hd hf hx hΦ hK
      obtain ⟨hI, f0, f1, f2, f3, f4, f5, f6, f7, f8, f9⟩ := hΦ
      refine ⟨fun _ => ?_, fun h => absurd h (by rw [Go.RE.wanted_none rfl]; decide)⟩
      have d3 := f3 (hd 3 (by kernel_rfl))
      have e24 : a.tmps[24]? = some (x 24) := hx 3 _ 24 rfl rfl (hd 3 (by kernel_rfl))
      clear hf hx hd
      go_simp
      refine hK _ _ ?_
      exact ⟨hI, fun h => f0 h, fun h => f1 h, fun h => f2 h, fun h => f3 h, fun h => f4 h, fun h => f5 h, fun h => f6 h, fun h => f7 h, fun _ => d3, fun h => f9 h⟩
    · intro L x a wR K hL hd hf hx hΦ hK
      obtain ⟨hI, f0, f1, f2, f3, f4, f5, f6, f7, f8, f9⟩ := hΦ
      refine ⟨fun _ => ?_, fun h => absurd h (by rw [Go.RE.wanted_none rfl]; decide)⟩
      have d7 := f7 (hd 7 (by kernel_rfl))
      have e28 : a.tmps[28]? = some (x 28) := hx 7 _ 28 rfl rfl (hd 7 (by kernel_rfl))
      clear hf hx hd
      go_simp
      refine hK _ _ ?_
      exact ⟨hI, fun h => f0 h, fun h => f1 h, fun h => f2 h, fun h => f3 h, fun h => f4 h, fun h => f5 h, fun h => f6 h, fun h => f7 h, fun h => f8 h, fun _ => d7⟩
    · rintro x W ⟨hI, f0, f1, f2, f3, f4, f5, f6, f7, f8, f9⟩
      obtain ⟨g, k, e1, o1, r1⟩ := (f8 rfl).2
      obtain ⟨g', k', e2, o2, r2⟩ := (f9 rfl).2
      have hne : g ≠ g' := by
        obtain ⟨g9, k9, z0, z1, z3, z4, z5, z6, hv, ho, hd9⟩ := f2 rfl
        have h := hd9 rfl
        rw [hv] at r1
        have : g9 = g := by simpa [rb, Value.ownBlock] using r1
        intro e; exact h (by rw [r2, this, e])
      simp only [Exit.then]
      go_step
      go_meet
      exact ⟨g, k, g', k', e1, e2, o1, o2, hne, hI⟩
  case rest =>
    obtain ⟨g1, k1, g2, k2, rfl, rfl, ho1, ho2, hne, hB⟩ := hcut
    replace HBL := Lib.hid (below_tr HBL.out hB)
    have HY1 := Lib.hid ho1
    have HY2 := Lib.hid ho2
    have HNE := Lib.hid hne
    have HW0 : Hid (w.heap.size ≤ q0.heap.size) := Lib.hid (by have := HBL.out.size; have := HSV2.out q0 (Below.refl _ _); have := HK.blk_lt this; omega)
    obtain ⟨q1, hq1⟩ : ∃ q : World, q = wc := ⟨_, rfl⟩
    subst hq1
    clear ho1 ho2 hne hB
    go_upto_region 4 with (fail)
    go_cut [3] from 29 to 30 (fun v wx => v = .int .u8 (c : Int) ∧ q1 = wx)
    case first =>
      have e1 := HC8.out.1
      have e2 : (cc : Int).tmod 8 = (c : Int) := by rw [Int.tmod_eq_emod_of_nonneg (by omega)]; exact e1
      go_wp2_with (fail)
      go_meet
      exact ⟨rfl, rfl⟩
    case rest =>
      obtain ⟨rfl, rfl⟩ := hcut
      go_upto_region 5 with (fail)
      go_cut [11, 12] from 31 to 36 (fun v11 v12 wx => ∃ out g k, v11 = .slice (some ⟨g, 0, none⟩) n k ∧ v12 = .int .i64 0 ∧ CloP c rl out ∧ wx.ownsRow 0 3 1 (.slice (some ⟨g, 0, none⟩) n k) n (ints out) ∧ q1.heap.size ≤ g ∧ Below q1.heap.size q1 wx)
      case first =>
        have hc := close_yes q1 g1 0 n k1 rl (isR_own HY1.out) HLR.out HRO.out HN14.out.1 c HC8.out.2
        have HC := Lib.hid hc
        clear hc
        unfold RetClo at HC
        go_wp2_with (go_at_call 22; ((with_reducible refine HC.out.mono ?_); rintro e w' ⟨out', v, rfl, hclo, hown, hB⟩))
        go_meet
        have hl : out'.length = n := hclo.i.len.trans (HLR.out)
        rw [hl] at hown
        obtain ⟨g, k, rfl, hge, _⟩ := own_form9 hown (by have := HN14.out; omega)
        exact ⟨out', g, k, rfl, rfl, hclo, own_mono0 hown, hge, hB⟩
      case rest =>
        obtain ⟨out, g3, k3, rfl, rfl, hclo, hown, hge, hB⟩ := hcut
        have HG3 : Hid (g2 < g3) := Lib.hid (Nat.lt_of_lt_of_le (own_lt9 HY2.out g2 rfl) hge)
        replace HY1 := Lib.hid (own_below9 HY1.out hB)
        replace HY2 := Lib.hid (own_below9 HY2.out hB)
        replace HBL := Lib.hid (below_tr HBL.out hB)
        obtain ⟨q2, hq2⟩ : ∃ q : World, q = wc := ⟨_, rfl⟩
        subst hq2
        have HCL := Lib.hid hclo
        have HY3 := Lib.hid hown
        have HLC : Hid (out.length = n) := Lib.hid (hclo.i.len.trans HLR.out)
        clear hclo hown hge hB
        go_upto_region 6 with (fail)
        go_cut [13, 14] from 37 to 42 (fun v13 v14 wx => ∃ g k, v13 = .slice (some ⟨g, 0, none⟩) n k ∧ v14 = .int .i64 0 ∧ wx.ownsRow 0 3 1 (.slice (some ⟨g, 0, none⟩) n k) n (ints out) ∧ q2.heap.size ≤ g ∧ Below q2.heap.size q2 wx)
        case first =>
          have hc := close_yes q2 g3 0 n k3 out (isR_own HY3.out) HLC.out HCL.out.i.ok HN14.out.1 c HC8.out.2
          have HC := Lib.hid hc
          clear hc
          unfold RetClo at HC
          go_wp2_with (go_at_call 22; ((with_reducible refine HC.out.mono ?_); rintro e w' ⟨out', v, rfl, hclo, hown, hB⟩))
          go_meet
          have hl : out'.length = n := hclo.i.len.trans (HLC.out)
          rw [hl] at hown
          obtain ⟨g, k, rfl, hge, _⟩ := own_form9 hown (by have := HN14.out; omega)
          rw [closer_again HCL.out hclo] at hown
          exact ⟨g, k, rfl, rfl, own_mono0 hown, hge, hB⟩
        case rest =>
          obtain ⟨g4, k4, rfl, rfl, hown, hge, hB⟩ := hcut
          have HG4 : Hid (g2 < g4) := Lib.hid (Nat.lt_of_lt_of_le (own_lt9 HY2.out g2 rfl) hge)
          replace HY1 := Lib.hid (own_below9 HY1.out hB)
          replace HY2 := Lib.hid (own_below9 HY2.out hB)
          replace HY3 := Lib.hid (own_below9 HY3.out hB)
          replace HBL := Lib.hid (below_tr HBL.out hB)
          obtain ⟨q3, hq3⟩ : ∃ q : World, q = wc := ⟨_, rfl⟩
          subst hq3
          have HY4 := Lib.hid hown
          clear hown hge hB
          have HG2 : Hid (w.heap.size ≤ g2) := Lib.hid (Nat.le_trans HW0.out (own_from HY2.out))
          have HN1 : Hid (∀ g, Value.ownBlock (.slice (some ⟨g1, 0, none⟩) n k1) = some g → ¬ g = g2) := Lib.hid (by
            intro g e
            have := HNE.out
            simp [Value.ownBlock] at e
            omega)
          have HN3 : Hid (∀ g, Value.ownBlock (.slice (some ⟨g3, 0, none⟩) n k3) = some g → ¬ g = g2) := Lib.hid (by
            intro g e
            have := HG3.out
            simp [Value.ownBlock] at e
            omega)
          have HN4 : Hid (∀ g, Value.ownBlock (.slice (some ⟨g4, 0, none⟩) n k4) = some g → ¬ g = g2) := Lib.hid (by
            intro g e
            have := HG4.out
            simp [Value.ownBlock] at e
            omega)
          obtain ⟨n1, n4⟩ := HN14.out
          have qn : (0 : Int) ≤ (n : Int) := by omega
          go_wp2_with (fail)
          go_loopw [45] (fun i wr => ∃ j : Nat, j ≤ n ∧ i = .int .i64 j ∧ HK.Frm (fun b => b = g2) q3 wr ∧ wr.ownsRow 0 3 1 (.slice (some ⟨g2, 0, none⟩) n k2) n (ints (orK ol rl j))) (fun i _ => n - (intOf i).toNat)
          case atStart => exact ⟨0, by omega, rfl, HK.Frm.refl _ _, own_mono0 HY2.out⟩
          case round =>
            obtain ⟨j, hj, rfl, hfr, hrow⟩ := hrel
            have HFR := Lib.hid hfr
            have HRW2 := Lib.hid hrow
            by_cases hjn : (j : Int) < (n : Int)
            · have b0 : (0 : Int) ≤ (j : Int) := by omega
              obtain ⟨xj, hxj⟩ : ∃ x, ol[j]? = some x := ⟨_, List.getElem?_eq_getElem (by rw [HLO.out]; omega)⟩
              obtain ⟨yj, hyj⟩ : ∃ x, rl[j]? = some x := ⟨_, List.getElem?_eq_getElem (by rw [HLR.out]; omega)⟩
              have hx16 : xj < 16 := by have := HOO.out.get j; rwa [getD_get hxj] at this
              have hy16 : yj < 16 := by have := HRO.out.get j; rwa [getD_get hyj] at this
              obtain ⟨zj, hzj⟩ : ∃ z, z = xj ||| yj := ⟨_, rfl⟩
              have HZ : Hid (bits .or .i64 (xj : Int) (yj : Int) = (zj : Int)) := Lib.hid (by rw [hzj]; exact bits_or xj yj (by omega) (by omega))
              have HST : Hid (orK ol rl (j + 1) = (orK ol rl j).set j zj) := Lib.hid (by rw [hzj, ← getD_get hxj, ← getD_get hyj]; rfl)
              have HXC : Hid (∀ W : World, W.ownsRow 0 3 1 (.slice (some ⟨g2, 0, none⟩) n k2) n (ints (orK ol rl j)) → W.cell? ⟨g2, j, none⟩ = some (.int .i64 (xj : Int))) := Lib.hid fun W h => by
                have := (isR_own h) j xj (by rw [orK_get _ _ _ _ (by rw [HLO.out]; omega), if_neg (by omega)]; exact hxj)
                rwa [Nat.zero_add] at this
              have HYC : Hid (∀ W, HK.Frm (fun b => b = g2) wr W → W.cell? ⟨g1, j, none⟩ = some (.int .i64 (yj : Int))) := Lib.hid fun W h => by
                have := (isR_own ((HFR.out.trans h).owns HY1.out HN1.out)) j yj hyj
                rwa [Nat.zero_add] at this
              have HK0 := Lib.hid b0
              have HK1 := Lib.hid hjn
              clear hxj hyj hx16 hy16 hzj hfr hrow
              go_upto_region 10 with (fail)
              clear b0 hjn hj qn
              refine Go.RE.wp_region_eachg [48, 49, 50, 51, 52, 53, 54, 55, 56, 57] (fun L x W => (HK.Frm (fun b => b = g2) wr W ∧ (L 10 = false → W.ownsRow 0 3 1 (.slice (some ⟨g2, 0, none⟩) n k2) n (ints (orK ol rl j)))) ∧ (L 0 = true → x 48 = .slice (some ⟨g2, 0, none⟩) n k2) ∧ (L 1 = true → x 49 = .int .i64 (j : Int)) ∧ (L 2 = true → x 50 = .pointer (some ⟨g2, j, none⟩)) ∧ (L 3 = true → x 51 = .int .i64 (xj : Int)) ∧ (L 4 = true → x 52 = .slice (some ⟨g1, 0, none⟩) n k1) ∧ (L 5 = true → x 53 = .int .i64 (j : Int)) ∧ (L 6 = true → x 54 = .pointer (some ⟨g1, j, none⟩)) ∧ (L 7 = true → x 55 = .int .i64 (yj : Int)) ∧ (L 8 = true → x 56 = .int .i64 (zj : Int)) ∧ (L 9 = true → x 57 = .pointer (some ⟨g2, j, none⟩)) ∧ (L 10 = true → L 3 = true ∧ W.ownsRow 0 3 1 (.slice (some ⟨g2, 0, none⟩) n k2) n (ints ((orK ol rl j).set j zj)))) (by kernel_rfl) (by kernel_rfl) (by kernel_rfl) ?_ ((Go.RE.Each.cons ?_ (Go.RE.Each.cons ?_ (Go.RE.Each.cons ?_ (Go.RE.Each.cons ?_ (Go.RE.Each.cons ?_ (Go.RE.Each.cons ?_ (Go.RE.Each.cons ?_ (Go.RE.Each.cons ?_ (Go.RE.Each.cons ?_ (Go.RE.Each.cons ?_ (Go.RE.Each.cons ?_ Go.RE.Each.nil)))))))))))) ?_
              · exact fun x => ⟨⟨HK.Frm.drew (HK.Frm.refl _ _), fun _ => own_drew HRW2.out⟩, fun h => (by cases h), fun h => (by cases h), fun h => (by cases h), fun h => (by cases h), fun h => (by cases h), fun h => (by cases h), fun h => (by cases h), fun h => (by cases h), fun h => (by cases h), fun h => (by cases h), fun h => (by cases h)⟩
              · intro L x a wR K hL hd hf hx hΦ hK
                obtain ⟨hI, f0, f1, f2, f3, f4, f5, f6, f7, f8, f9, f10⟩ := hΦ
                refine ⟨fun _ => ?_, fun h => absurd h (by rw [Go.RE.wanted_none rfl]; decide)⟩
                have e10 : a.tmps[10]? = some (.slice (some ⟨g2, 0, none⟩) n k2) := hf 10 (of_decide_eq_true (by kernel_rfl))
                clear hf hx hd
                go_simp
                refine hK _ _ ?_
                exact ⟨hI, fun _ => rfl, fun h => f1 h, fun h => f2 h, fun h => f3 h, fun h => f4 h, fun h => f5 h, fun h => f6 h, fun h => f7 h, fun h => f8 h, fun h => f9 h, fun h => f10 h⟩
              · intro L x a wR K hL hd hf hx hΦ hK
                obtain ⟨hI, f0, f1, f2, f3, f4, f5, f6, f7, f8, f9, f10⟩ := hΦ
                refine ⟨fun _ => ?_, fun h => absurd h (by rw [Go.RE.wanted_none rfl]; decide)⟩
                have e15 : a.tmps[15]? = some (.int .i64 (j : Int)) := hf 15 (of_decide_eq_true (by kernel_rfl))
                clear hf hx hd
                go_simp
                refine hK _ _ ?_
                exact ⟨hI, fun h => f0 h, fun _ => rfl, fun h => f2 h, fun h => f3 h, fun h => f4 h, fun h => f5 h, fun h => f6 h, fun h => f7 h, fun h => f8 h, fun h => f9 h, fun h => f10 h⟩
              · intro L x a wR K hL hd hf hx hΦ hK
                obtain ⟨hI, f0, f1, f2, f3, f4, f5, f6, f7, f8, f9, f10⟩ := hΦ
                refine ⟨fun _ => ?_, fun h => absurd h (by rw [Go.RE.wanted_none rfl]; decide)⟩
                have d0 := f0 (hd 0 (by kernel_rfl))
                have e48 : a.tmps[48]? = some (x 48) := hx 0 _ 48 rfl rfl (hd 0 (by kernel_rfl))
                rw [d0] at e48
                have d1 := f1 (hd 1 (by kernel_rfl))
                have e49 : a.tmps[49]? = some (x 49) := hx 1 _ 49 rfl rfl (hd 1 (by kernel_rfl))
                rw [d1] at e49
                have l1 := HK0.out
                have l2 := HK1.out
                clear hf hx hd
                go_simp
                refine hK _ _ ?_
                exact ⟨hI, fun h => f0 h, fun h => f1 h, fun _ => rfl, fun h => f3 h, fun h => f4 h, fun h => f5 h, fun h => f6 h, fun h => f7 h, fun h => f8 h, fun h => f9 h, fun h => f10 h⟩
              · intro L x a wR K hL hd hf hx hΦ hK
                obtain ⟨hI, f0, f1, f2, f3, f4, f5, f6, f7, f8, f9, f10⟩ := hΦ
                refine ⟨fun _ => ?_, fun h => absurd h (by rw [Go.RE.wanted_none rfl]; decide)⟩
                have d2 := f2 (hd 2 (by kernel_rfl))
                have e50 : a.tmps[50]? = some (x 50) := hx 2 _ 50 rfl rfl (hd 2 (by kernel_rfl))
                rw [d2] at e50
                have hL10 : L 10 = false := by rcases e : L 10 with _ | _; rfl; have hh := f10 e; simp [hL] at hh
                have c := HXC.out _ (hI.2 hL10)
                clear hf hx hd
                go_simp
                refine hK _ _ ?_
                exact ⟨hI, fun h => f0 h, fun h => f1 h, fun h => f2 h, fun _ => rfl, fun h => f4 h, fun h => f5 h, fun h => f6 h, fun h => f7 h, fun h => f8 h, fun h => f9 h, fun h => by have hh := f10 h; simp [hL] at hh⟩
              · intro L x a wR K hL hd hf hx hΦ hK
                obtain ⟨hI, f0, f1, f2, f3, f4, f5, f6, f7, f8, f9, f10⟩ := hΦ
                refine ⟨fun _ => ?_, fun h => absurd h (by rw [Go.RE.wanted_none rfl]; decide)⟩
                have e9 : a.tmps[9]? = some (.slice (some ⟨g1, 0, none⟩) n k1) := hf 9 (of_decide_eq_true (by kernel_rfl))
                clear hf hx hd
                go_simp
                refine hK _ _ ?_
                exact ⟨hI, fun h => f0 h, fun h => f1 h, fun h => f2 h, fun h => f3 h, fun _ => rfl, fun h => f5 h, fun h => f6 h, fun h => f7 h, fun h => f8 h, fun h => f9 h, fun h => f10 h⟩
              · intro L x a wR K hL hd hf hx hΦ hK
                obtain ⟨hI, f0, f1, f2, f3, f4, f5, f6, f7, f8, f9, f10⟩ := hΦ
                refine ⟨fun _ => ?_, fun h => absurd h (by rw [Go.RE.wanted_none rfl]; decide)⟩
                have e15 : a.tmps[15]? = some (.int .i64 (j : Int)) := hf 15 (of_decide_eq_true (by kernel_rfl))
                clear hf hx hd
                go_simp
                refine hK _ _ ?_
                exact ⟨hI, fun h => f0 h, fun h => f1 h, fun h => f2 h, fun h => f3 h, fun h => f4 h, fun _ => rfl, fun h => f6 h, fun h => f7 h, fun h => f8 h, fun h => f9 h, fun h => f10 h⟩
              · intro L x a wR K hL hd hf hx hΦ hK
                obtain ⟨hI, f0, f1, f2, f3, f4, f5, f6, f7, f8, f9, f10⟩ := hΦ
                refine ⟨fun _ => ?_, fun h => absurd h (by rw [Go.RE.wanted_none rfl]; decide)⟩
                have d4 := f4 (hd 4 (by kernel_rfl))
                have e52 : a.tmps[52]? = some (x 52) := hx 4 _ 52 rfl rfl (hd 4 (by kernel_rfl))
                rw [d4] at e52
                have d5 := f5 (hd 5 (by kernel_rfl))
                have e53 : a.tmps[53]? = some (x 53) := hx 5 _ 53 rfl rfl (hd 5 (by kernel_rfl))
                rw [d5] at e53
                have l1 := HK0.out
                have l2 := HK1.out
                clear hf hx hd
                go_simp
                refine hK _ _ ?_
                exact ⟨hI, fun h => f0 h, fun h => f1 h, fun h => f2 h, fun h => f3 h, fun h => f4 h, fun h => f5 h, fun _ => rfl, fun h => f7 h, fun h => f8 h, fun h => f9 h, fun h => f10 h⟩
              · intro L x a wR K hL hd hf hx hΦ hK
                obtain ⟨hI, f0, f1, f2, f3, f4, f5, f6, f7, f8, f9, f10⟩ := hΦ
                refine ⟨fun _ => ?_, fun h => absurd h (by rw [Go.RE.wanted_none rfl]; decide)⟩
                have d6 := f6 (hd 6 (by kernel_rfl))
                have e54 : a.tmps[54]? = some (x 54) := hx 6 _ 54 rfl rfl (hd 6 (by kernel_rfl))
                rw [d6] at e54
                have c := HYC.out _ hI.1
                clear hf hx hd
                go_simp
                refine hK _ _ ?_
                exact ⟨hI, fun h => f0 h, fun h => f1 h, fun h => f2 h, fun h => f3 h, fun h => f4 h, fun h => f5 h, fun h => f6 h, fun _ => rfl, fun h => f8 h, fun h => f9 h, fun h => f10 h⟩
              · intro L x a wR K hL hd hf hx hΦ hK
                obtain ⟨hI, f0, f1, f2, f3, f4, f5, f6, f7, f8, f9, f10⟩ := hΦ
                refine ⟨fun _ => ?_, fun h => absurd h (by rw [Go.RE.wanted_none rfl]; decide)⟩
                have d3 := f3 (hd 3 (by kernel_rfl))
                have e51 : a.tmps[51]? = some (x 51) := hx 3 _ 51 rfl rfl (hd 3 (by kernel_rfl))
                rw [d3] at e51
                have d7 := f7 (hd 7 (by kernel_rfl))
                have e55 : a.tmps[55]? = some (x 55) := hx 7 _ 55 rfl rfl (hd 7 (by kernel_rfl))
                rw [d7] at e55
                have e1 := HZ.out
                clear hf hx hd
                go_simp
                refine hK _ _ ?_
                exact ⟨hI, fun h => f0 h, fun h => f1 h, fun h => f2 h, fun h => f3 h, fun h => f4 h, fun h => f5 h, fun h => f6 h, fun h => f7 h, fun _ => rfl, fun h => f9 h, fun h => f10 h⟩
              · intro L x a wR K hL hd hf hx hΦ hK
                obtain ⟨hI, f0, f1, f2, f3, f4, f5, f6, f7, f8, f9, f10⟩ := hΦ
                refine ⟨fun _ => ?_, fun h => absurd h (by rw [Go.RE.wanted_none rfl]; decide)⟩
                have d0 := f0 (hd 0 (by kernel_rfl))
                have e48 : a.tmps[48]? = some (x 48) := hx 0 _ 48 rfl rfl (hd 0 (by kernel_rfl))
                rw [d0] at e48
                have d1 := f1 (hd 1 (by kernel_rfl))
                have e49 : a.tmps[49]? = some (x 49) := hx 1 _ 49 rfl rfl (hd 1 (by kernel_rfl))
                rw [d1] at e49
                have l1 := HK0.out
                have l2 := HK1.out
                clear hf hx hd
                go_simp
                refine hK _ _ ?_
                exact ⟨hI, fun h => f0 h, fun h => f1 h, fun h => f2 h, fun h => f3 h, fun h => f4 h, fun h => f5 h, fun h => f6 h, fun h => f7 h, fun h => f8 h, fun _ => rfl, fun h => f10 h⟩
              · intro L x a wR K hL hd hf hx hΦ hK
                obtain ⟨hI, f0, f1, f2, f3, f4, f5, f6, f7, f8, f9, f10⟩ := hΦ
                refine ⟨fun _ => ?_, fun h => absurd h (by rw [Go.RE.wanted_none rfl]; decide)⟩
                have d9 := f9 (hd 9 (by kernel_rfl))
                have e57 : a.tmps[57]? = some (x 57) := hx 9 _ 57 rfl rfl (hd 9 (by kernel_rfl))
                rw [d9] at e57
                have d8 := f8 (hd 8 (by kernel_rfl))
                have e56 : a.tmps[56]? = some (x 56) := hx 8 _ 56 rfl rfl (hd 8 (by kernel_rfl))
                rw [d8] at e56
                have r3 := hd 3 (by kernel_rfl)
                have c := HXC.out _ (hI.2 hL)
                have cf := fun i => (hI.2 hL).frozenAt i
                clear hf hx hd
                go_simp
                refine hK undef _ ?_
                exact ⟨⟨hI.1.setCell (.inl rfl) _, (fun h => by cases h)⟩, fun h => f0 h, fun h => f1 h, fun h => f2 h, fun h => f3 h, fun h => f4 h, fun h => f5 h, fun h => f6 h, fun h => f7 h, fun h => f8 h, fun h => f9 h, fun _ => ⟨r3, by rw [ints_set]; exact ((hI.2 hL).stored j (.int .i64 (zj : Int))).1⟩⟩
              · rintro x W ⟨hI, f0, f1, f2, f3, f4, f5, f6, f7, f8, f9, f10⟩
                have HFN := Lib.hid (f10 rfl).2
                have HFI := Lib.hid hI.1
                clear hI f0 f1 f2 f3 f4 f5 f6 f7 f8 f9 f10
                simp only [Exit.then, Go.RE.fillL, List.any_cons, List.any_nil, Nat.beq, Bool.or_false, Bool.or_true, cond_true, cond_false, Bool.true_or, Bool.false_or]
                have hjn := HK1.out
                go_wp2_with (fail)
                go_roundw
                case rel => exact ⟨j + 1, by omega, by go_num, HFR.out.trans HFI.out, by rw [HST.out]; exact HFN.out⟩
                case measure => simp [intOf]; omega
            · obtain rfl : n = j := by omega
              have hor : orK ol rl n = orR ol rl := by have := orK_all (HLO.out.trans HLR.out.symm); rwa [HLO.out] at this
              rw [hor] at hrow
              have hy1 := own_mono0 (hfr.owns HY1.out HN1.out)
              have hy3 := hfr.owns HY3.out HN3.out
              have hy4 := hfr.owns HY4.out HN4.out
              have hbw : Below w.heap.size w wr := HBL.out.trans (hfr.below (HBL.out.size) (fun k hk => by have := HG2.out; omega))
              clear HY1 HY2 HY3 HY4 HBL HFR HRW2 hfr
              have HY1 := Lib.hid hy1
              have HY2 := Lib.hid hrow
              have HY3 := Lib.hid hy3
              have HY4 := Lib.hid hy4
              have HBL := Lib.hid hbw
              obtain ⟨wc, hwc⟩ : ∃ q : World, q = wr := ⟨_, rfl⟩
              subst hwc
              clear hor hrow hy1 hy3 hy4 hbw hjn hj
              obtain ⟨q4, hq4⟩ : ∃ q : World, q = wc := ⟨_, rfl⟩
              subst hq4
              go_upto_region 12 with (fail)
              go_cut [16, 17] from 59 to 64 (fun v16 v17 wx => ∃ out g k, v16 = .slice (some ⟨g, 0, none⟩) n k ∧ v17 = .int .i64 0 ∧ CloP c (orR ol rl) out ∧ wx.ownsRow 0 3 1 (.slice (some ⟨g, 0, none⟩) n k) n (ints out) ∧ q4.heap.size ≤ g ∧ Below q4.heap.size q4 wx)
              case first =>
                have hc := close_yes q4 g2 0 n k2 (orR ol rl) (isR_own HY2.out) ((orR_len (HLO.out.trans HLR.out.symm)).trans HLR.out) (orR_ok HOO.out HRO.out (HLO.out.trans HLR.out.symm)) HN14.out.1 c HC8.out.2
                have HC := Lib.hid hc
                clear hc
                unfold RetClo at HC
                go_wp2_with (go_at_call 22; ((with_reducible refine HC.out.mono ?_); rintro e w' ⟨out', v, rfl, hclo, hown, hB⟩))
                go_meet
                have hl : out'.length = n := hclo.i.len.trans (((orR_len (HLO.out.trans HLR.out.symm)).trans HLR.out))
                rw [hl] at hown
                obtain ⟨g, k, rfl, hge, _⟩ := own_form9 hown (by have := HN14.out; omega)
                exact ⟨out', g, k, rfl, rfl, hclo, own_mono0 hown, hge, hB⟩
              case rest =>
                obtain ⟨gr, g5, k5, rfl, rfl, hclo, hown, hge, hB⟩ := hcut
                replace HY1 := Lib.hid (own_below9 HY1.out hB)
                replace HY2 := Lib.hid (own_below9 HY2.out hB)
                replace HY3 := Lib.hid (own_below9 HY3.out hB)
                replace HY4 := Lib.hid (own_below9 HY4.out hB)
                replace HBL := Lib.hid (below_tr HBL.out hB)
                obtain ⟨q5, hq5⟩ : ∃ q : World, q = wc := ⟨_, rfl⟩
                subst hq5
                have HGR := Lib.hid hclo
                have HY5 := Lib.hid hown
                clear hclo hown hge hB
                have hgl : gr.length = n := (HGR.out.i.len.trans ((orR_len (HLO.out.trans HLR.out.symm)).trans HLR.out))
                have HGL := Lib.hid hgl
                obtain ⟨bb, hbb⟩ : ∃ bb, bb = decide (rl = out) := ⟨_, rfl⟩
                have HF1 : Hid (Calls Tryd.prog 21 #[.slice (some ⟨g3, 0, none⟩) n k3, .int .u8 (c : Int)] q5 (RetB q5 true)) := Lib.hid (by
                  have := fits_call q5 g3 0 n k3 out (isR_own HY3.out) HLC.out HCL.out.i.ok HN14.out.1 c (by have := HC8.out.2; omega)
                  rwa [closer_fits HCL.out HC8.out.2] at this)
                have HF2 : Hid (∀ W, Below q5.heap.size q5 W → Calls Tryd.prog 21 #[.slice (some ⟨g1, 0, none⟩) n k1, .int .u8 (c : Int)] W (RetB W bb)) := Lib.hid fun W h => by
                  have := fits_call W g1 0 n k1 rl (isR_own (own_below9 HY1.out h)) HLR.out HRO.out HN14.out.1 c (by have := HC8.out.2; omega)
                  rwa [closer_stay HRO.out HCL.out HC8.out.2, ← hbb] at this
                have HE1 : Hid (∀ W, Below q5.heap.size q5 W → Calls Tryd.prog 27 #[.slice (some ⟨g3, 0, none⟩) n k3, .slice (some ⟨g4, 0, none⟩) n k4] W (RetW W true)) := Lib.hid fun W h => by
                  have := same_rows (own_below9 HY3.out h) (own_below9 HY4.out h) HLC.out HLC.out HN14.out.2
                  rwa [decide_eq_true rfl] at this
                have HE2 : Hid (∀ W, Below q5.heap.size q5 W → Calls Tryd.prog 27 #[.slice (some ⟨g1, 0, none⟩) n k1, .slice (some ⟨g3, 0, none⟩) n k3] W (RetW W bb)) := Lib.hid fun W h => by
                  have := same_rows (own_below9 HY1.out h) (own_below9 HY3.out h) HLR.out HLC.out HN14.out.2
                  rwa [← hbb] at this
                unfold RetW at HE1 HE2
                unfold RetB at HF1 HF2
                clear hgl hbb
                go_upto_region 13 with (fail)
                go_cut [91] from 65 to 90 (fun v wx => v = .bool false ∧ Below q5.heap.size q5 wx)
                case first =>
                  cases bb
                  all_goals (
                    go_wp2_with (first
                      | (go_at_call 21; ((with_reducible refine HF1.out.mono ?_); rintro e w1 ⟨rfl, hB1⟩; have h2 := HE1.out _ hB1; have HEA := Lib.hid h2; have HB1 := Lib.hid hB1; clear h2 hB1))
                      | (go_at_call 27; ((with_reducible refine HEA.out.mono ?_); rintro e w2 ⟨rfl, hB2⟩; have hB22 := below_tr HB1.out hB2; have h3 := HF2.out _ hB22; have HFB := Lib.hid h3; have HB2 := Lib.hid hB22; clear h3 hB2 hB22))
                      | (go_at_call 21; ((with_reducible refine HFB.out.mono ?_); rintro e w3 ⟨rfl, hB3⟩; have hB33 := below_tr HB2.out hB3; have h4 := HE2.out _ hB33; have HEB := Lib.hid h4; have HB3 := Lib.hid hB33; clear h4 hB3 hB33))
                      | (go_at_call 27; ((with_reducible refine HEB.out.mono ?_); rintro e w4 ⟨rfl, hB4⟩)))
                    go_meet
                    exact ⟨rfl, below_tr HB3.out hB4⟩)
                case rest =>
                  obtain ⟨rfl, hB⟩ := hcut
                  have HY1' := Lib.hid (own_below9 HY1.out hB)
                  have HY3' := Lib.hid (own_below9 HY3.out hB)
                  have HY5' := Lib.hid (own_below9 HY5.out hB)
                  have HBL' := Lib.hid (below_tr HBL.out hB)
                  obtain ⟨wd, hwd⟩ : ∃ q : World, q = wc := ⟨_, rfl⟩
                  subst hwd
                  clear HF1 HF2 HE1 HE2 HY1 HY2 HY3 HY4 HY5 HBL hB
                  have qn : (0 : Int) ≤ (n : Int) := by omega
                  go_wp2_with (fail)
                  go_loopw [94] (fun i wr => ∃ j : Nat, j ≤ n ∧ i = .int .i64 j ∧ Below wd.heap.size wd wr) (fun i _ => n - (intOf i).toNat)
                  case atStart => exact ⟨0, by omega, rfl, Below.refl _ _⟩
                  case round =>
                    obtain ⟨j, hj, rfl, hB⟩ := hrel
                    have HB := Lib.hid hB
                    by_cases hjn : (j : Int) < (n : Int)
                    · have b0 : (0 : Int) ≤ (j : Int) := by omega
                      obtain ⟨xj, hxj⟩ : ∃ x, rl[j]? = some x := ⟨_, List.getElem?_eq_getElem (by rw [HLR.out]; omega)⟩
                      obtain ⟨yj, hyj⟩ : ∃ x, out[j]? = some x := ⟨_, List.getElem?_eq_getElem (by rw [HLC.out]; omega)⟩
                      obtain ⟨zj, hzj⟩ : ∃ x, gr[j]? = some x := ⟨_, List.getElem?_eq_getElem (by rw [HGL.out]; omega)⟩
                      have hx16 : xj < 16 := by have := HRO.out.get j; rwa [getD_get hxj] at this
                      have hy16 : yj < 16 := by have := HCL.out.i.ok.get j; rwa [getD_get hyj] at this
                      have hz16 : zj < 16 := by have := HGR.out.i.ok.get j; rwa [getD_get hzj] at this
                      have HZ1 : Hid (bits .andNot .i64 (xj : Int) (yj : Int) = 0) := Lib.hid (by
                        have := closer_sub HRO.out HCL.out j
                        rw [getD_get hxj, getD_get hyj] at this
                        rw [bits_andn xj yj (by omega) (by omega), this]; rfl)
                      have HZ2 : Hid (bits .andNot .i64 (yj : Int) (zj : Int) = 0) := Lib.hid (by
                        have := closer_great HRO.out HOO.out (HLO.out.trans HLR.out.symm) HCL.out HGR.out j
                        rw [getD_get hyj, getD_get hzj] at this
                        rw [bits_andn yj zj (by omega) (by omega), this]; rfl)
                      have HXC : Hid (∀ W, Below wr.heap.size wr W → W.cell? ⟨g1, j, none⟩ = some (.int .i64 (xj : Int)) ∧ W.cell? ⟨g3, j, none⟩ = some (.int .i64 (yj : Int)) ∧ W.cell? ⟨g5, j, none⟩ = some (.int .i64 (zj : Int))) := Lib.hid fun W h => by
                        have h2 := below_tr hB h
                        have a := (isR_own (own_below9 HY1'.out h2)) j xj hxj
                        have b := (isR_own (own_below9 HY3'.out h2)) j yj hyj
                        have c := (isR_own (own_below9 HY5'.out h2)) j zj hzj
                        rw [Nat.zero_add] at a b c
                        exact ⟨a, b, c⟩
                      have HK0 := Lib.hid b0
                      have HK1 := Lib.hid hjn
                      clear hxj hyj hzj hx16 hy16 hz16
                      go_upto_region 18 with (fail)
                      go_cut [118] from 97 to 117 (fun v wx => v = .bool false ∧ Below wr.heap.size wr wx)
                      case first =>
                        clear b0 hjn hj qn hB
                        refine Go.RE.wp_region_eachg [97, 98, 99, 100, 101, 102, 103, 104, 105, 106, 107, 108, 109, 110, 111, 112, 113, 114, 115, 116, 117, 118] (fun L x W => (Below wr.heap.size wr W) ∧ (L 0 = true → x 97 = .slice (some ⟨g1, 0, none⟩) n k1) ∧ (L 1 = true → x 98 = .int .i64 (j : Int)) ∧ (L 2 = true → x 99 = .pointer (some ⟨g1, j, none⟩)) ∧ (L 3 = true → x 100 = .int .i64 (xj : Int)) ∧ (L 4 = true → x 101 = .slice (some ⟨g3, 0, none⟩) n k3) ∧ (L 5 = true → x 102 = .int .i64 (j : Int)) ∧ (L 6 = true → x 103 = .pointer (some ⟨g3, j, none⟩)) ∧ (L 7 = true → x 104 = .int .i64 (yj : Int)) ∧ (L 8 = true → x 105 = .int .i64 0) ∧ (L 9 = true → x 106 = .bool false) ∧ (L 10 = true → x 107 = .bool false) ∧ (L 11 = true → x 108 = .slice (some ⟨g3, 0, none⟩) n k3) ∧ (L 12 = true → x 109 = .int .i64 (j : Int)) ∧ (L 13 = true → x 110 = .pointer (some ⟨g3, j, none⟩)) ∧ (L 14 = true → x 111 = .int .i64 (yj : Int)) ∧ (L 15 = true → x 112 = .slice (some ⟨g5, 0, none⟩) n k5) ∧ (L 16 = true → x 113 = .int .i64 (j : Int)) ∧ (L 17 = true → x 114 = .pointer (some ⟨g5, j, none⟩)) ∧ (L 18 = true → x 115 = .int .i64 (zj : Int)) ∧ (L 19 = true → x 116 = .int .i64 0) ∧ (L 20 = true → x 117 = .bool false) ∧ (L 21 = true → x 118 = .bool false)) (by kernel_rfl) (by kernel_rfl) (by kernel_rfl) ?_ ((Go.RE.Each.cons ?_ (Go.RE.Each.cons ?_ (Go.RE.Each.cons ?_ (Go.RE.Each.cons ?_ (Go.RE.Each.cons ?_ (Go.RE.Each.cons ?_ (Go.RE.Each.cons ?_ (Go.RE.Each.cons ?_ (Go.RE.Each.cons ?_ (Go.RE.Each.cons ?_ (Go.RE.Each.cons ?_ (Go.RE.Each.cons ?_ (Go.RE.Each.cons ?_ (Go.RE.Each.cons ?_ (Go.RE.Each.cons ?_ (Go.RE.Each.cons ?_ (Go.RE.Each.cons ?_ (Go.RE.Each.cons ?_ (Go.RE.Each.cons ?_ (Go.RE.Each.cons ?_ (Go.RE.Each.cons ?_ (Go.RE.Each.cons ?_ Go.RE.Each.nil))))))))))))))))))))))) ?_
                        · exact fun x => ⟨bl_dr (Below.refl _ _), fun h => (by cases h), fun h => (by cases h), fun h => (by cases h), fun h => (by cases h), fun h => (by cases h), fun h => (by cases h), fun h => (by cases h), fun h => (by cases h), fun h => (by cases h), fun h => (by cases h), fun h => (by cases h), fun h => (by cases h), fun h => (by cases h), fun h => (by cases h), fun h => (by cases h), fun h => (by cases h), fun h => (by cases h), fun h => (by cases h), fun h => (by cases h), fun h => (by cases h), fun h => (by cases h), fun h => (by cases h)⟩
                        · intro L x a wR K hL hd hf hx hΦ hK
                          obtain ⟨hI, f0, f1, f2, f3, f4, f5, f6, f7, f8, f9, f10, f11, f12, f13, f14, f15, f16, f17, f18, f19, f20, f21⟩ := hΦ
                          refine ⟨fun _ => ?_, fun h => absurd h (by rw [Go.RE.wanted_none rfl]; decide)⟩
                          have e9 : a.tmps[9]? = some (.slice (some ⟨g1, 0, none⟩) n k1) := hf 9 (of_decide_eq_true (by kernel_rfl))
                          clear hf hx hd
                          go_simp
                          refine hK _ _ ?_
                          exact ⟨hI, fun _ => rfl, fun h => f1 h, fun h => f2 h, fun h => f3 h, fun h => f4 h, fun h => f5 h, fun h => f6 h, fun h => f7 h, fun h => f8 h, fun h => f9 h, fun h => f10 h, fun h => f11 h, fun h => f12 h, fun h => f13 h, fun h => f14 h, fun h => f15 h, fun h => f16 h, fun h => f17 h, fun h => f18 h, fun h => f19 h, fun h => f20 h, fun h => f21 h⟩
                        · intro L x a wR K hL hd hf hx hΦ hK
                          obtain ⟨hI, f0, f1, f2, f3, f4, f5, f6, f7, f8, f9, f10, f11, f12, f13, f14, f15, f16, f17, f18, f19, f20, f21⟩ := hΦ
                          refine ⟨fun _ => ?_, fun h => absurd h (by rw [Go.RE.wanted_none rfl]; decide)⟩
                          have e18 : a.tmps[18]? = some (.int .i64 (j : Int)) := hf 18 (of_decide_eq_true (by kernel_rfl))
                          clear hf hx hd
                          go_simp
                          refine hK _ _ ?_
                          exact ⟨hI, fun h => f0 h, fun _ => rfl, fun h => f2 h, fun h => f3 h, fun h => f4 h, fun h => f5 h, fun h => f6 h, fun h => f7 h, fun h => f8 h, fun h => f9 h, fun h => f10 h, fun h => f11 h, fun h => f12 h, fun h => f13 h, fun h => f14 h, fun h => f15 h, fun h => f16 h, fun h => f17 h, fun h => f18 h, fun h => f19 h, fun h => f20 h, fun h => f21 h⟩
                        · intro L x a wR K hL hd hf hx hΦ hK
                          obtain ⟨hI, f0, f1, f2, f3, f4, f5, f6, f7, f8, f9, f10, f11, f12, f13, f14, f15, f16, f17, f18, f19, f20, f21⟩ := hΦ
                          refine ⟨fun _ => ?_, fun h => absurd h (by rw [Go.RE.wanted_none rfl]; decide)⟩
                          have d0 := f0 (hd 0 (by kernel_rfl))
                          have e97 : a.tmps[97]? = some (x 97) := hx 0 _ 97 rfl rfl (hd 0 (by kernel_rfl))
                          rw [d0] at e97
                          have d1 := f1 (hd 1 (by kernel_rfl))
                          have e98 : a.tmps[98]? = some (x 98) := hx 1 _ 98 rfl rfl (hd 1 (by kernel_rfl))
                          rw [d1] at e98
                          have l1 := HK0.out
                          have l2 := HK1.out
                          clear hf hx hd
                          go_simp
                          refine hK _ _ ?_
                          exact ⟨hI, fun h => f0 h, fun h => f1 h, fun _ => rfl, fun h => f3 h, fun h => f4 h, fun h => f5 h, fun h => f6 h, fun h => f7 h, fun h => f8 h, fun h => f9 h, fun h => f10 h, fun h => f11 h, fun h => f12 h, fun h => f13 h, fun h => f14 h, fun h => f15 h, fun h => f16 h, fun h => f17 h, fun h => f18 h, fun h => f19 h, fun h => f20 h, fun h => f21 h⟩
                        · intro L x a wR K hL hd hf hx hΦ hK
                          obtain ⟨hI, f0, f1, f2, f3, f4, f5, f6, f7, f8, f9, f10, f11, f12, f13, f14, f15, f16, f17, f18, f19, f20, f21⟩ := hΦ
                          refine ⟨fun _ => ?_, fun h => absurd h (by rw [Go.RE.wanted_none rfl]; decide)⟩
                          have d2 := f2 (hd 2 (by kernel_rfl))
                          have e99 : a.tmps[99]? = some (x 99) := hx 2 _ 99 rfl rfl (hd 2 (by kernel_rfl))
                          rw [d2] at e99
                          obtain ⟨c1, c2, c3⟩ := HXC.out _ hI
                          clear hf hx hd
                          go_simp
                          refine hK _ _ ?_
                          exact ⟨hI, fun h => f0 h, fun h => f1 h, fun h => f2 h, fun _ => rfl, fun h => f4 h, fun h => f5 h, fun h => f6 h, fun h => f7 h, fun h => f8 h, fun h => f9 h, fun h => f10 h, fun h => f11 h, fun h => f12 h, fun h => f13 h, fun h => f14 h, fun h => f15 h, fun h => f16 h, fun h => f17 h, fun h => f18 h, fun h => f19 h, fun h => f20 h, fun h => f21 h⟩
                        · intro L x a wR K hL hd hf hx hΦ hK
                          obtain ⟨hI, f0, f1, f2, f3, f4, f5, f6, f7, f8, f9, f10, f11, f12, f13, f14, f15, f16, f17, f18, f19, f20, f21⟩ := hΦ
                          refine ⟨fun _ => ?_, fun h => absurd h (by rw [Go.RE.wanted_none rfl]; decide)⟩
                          have e11 : a.tmps[11]? = some (.slice (some ⟨g3, 0, none⟩) n k3) := hf 11 (of_decide_eq_true (by kernel_rfl))
                          clear hf hx hd
                          go_simp
                          refine hK _ _ ?_
                          exact ⟨hI, fun h => f0 h, fun h => f1 h, fun h => f2 h, fun h => f3 h, fun _ => rfl, fun h => f5 h, fun h => f6 h, fun h => f7 h, fun h => f8 h, fun h => f9 h, fun h => f10 h, fun h => f11 h, fun h => f12 h, fun h => f13 h, fun h => f14 h, fun h => f15 h, fun h => f16 h, fun h => f17 h, fun h => f18 h, fun h => f19 h, fun h => f20 h, fun h => f21 h⟩
                        · intro L x a wR K hL hd hf hx hΦ hK
                          obtain ⟨hI, f0, f1, f2, f3, f4, f5, f6, f7, f8, f9, f10, f11, f12, f13, f14, f15, f16, f17, f18, f19, f20, f21⟩ := hΦ
                          refine ⟨fun _ => ?_, fun h => absurd h (by rw [Go.RE.wanted_none rfl]; decide)⟩
                          have e18 : a.tmps[18]? = some (.int .i64 (j : Int)) := hf 18 (of_decide_eq_true (by kernel_rfl))
                          clear hf hx hd
                          go_simp
                          refine hK _ _ ?_
                          exact ⟨hI, fun h => f0 h, fun h => f1 h, fun h => f2 h, fun h => f3 h, fun h => f4 h, fun _ => rfl, fun h => f6 h, fun h => f7 h, fun h => f8 h, fun h => f9 h, fun h => f10 h, fun h => f11 h, fun h => f12 h, fun h => f13 h, fun h => f14 h, fun h => f15 h, fun h => f16 h, fun h => f17 h, fun h => f18 h, fun h => f19 h, fun h => f20 h, fun h => f21 h⟩
                        · intro L x a wR K hL hd hf hx hΦ hK
                          obtain ⟨hI, f0, f1, f2, f3, f4, f5, f6, f7, f8, f9, f10, f11, f12, f13, f14, f15, f16, f17, f18, f19, f20, f21⟩ := hΦ
                          refine ⟨fun _ => ?_, fun h => absurd h (by rw [Go.RE.wanted_none rfl]; decide)⟩
                          have d4 := f4 (hd 4 (by kernel_rfl))
                          have e101 : a.tmps[101]? = some (x 101) := hx 4 _ 101 rfl rfl (hd 4 (by kernel_rfl))
                          rw [d4] at e101
                          have d5 := f5 (hd 5 (by kernel_rfl))
                          have e102 : a.tmps[102]? = some (x 102) := hx 5 _ 102 rfl rfl (hd 5 (by kernel_rfl))
                          rw [d5] at e102
                          have l1 := HK0.out
                          have l2 := HK1.out
                          clear hf hx hd
                          go_simp
                          refine hK _ _ ?_
                          exact ⟨hI, fun h => f0 h, fun h => f1 h, fun h => f2 h, fun h => f3 h, fun h => f4 h, fun h => f5 h, fun _ => rfl, fun h => f7 h, fun h => f8 h, fun h => f9 h, fun h => f10 h, fun h => f11 h, fun h => f12 h, fun h => f13 h, fun h => f14 h, fun h => f15 h, fun h => f16 h, fun h => f17 h, fun h => f18 h, fun h => f19 h, fun h => f20 h, fun h => f21 h⟩
                        · intro L x a wR K hL hd hf hx hΦ hK
                          obtain ⟨hI, f0, f1, f2, f3, f4, f5, f6, f7, f8, f9, f10, f11, f12, f13, f14, f15, f16, f17, f18, f19, f20, f21⟩ := hΦ
                          refine ⟨fun _ => ?_, fun h => absurd h (by rw [Go.RE.wanted_none rfl]; decide)⟩
                          have d6 := f6 (hd 6 (by kernel_rfl))
                          have e103 : a.tmps[103]? = some (x 103) := hx 6 _ 103 rfl rfl (hd 6 (by kernel_rfl))
                          rw [d6] at e103
                          obtain ⟨c1, c2, c3⟩ := HXC.out _ hI
                          clear hf hx hd
                          go_simp
                          refine hK _ _ ?_
                          exact ⟨hI, fun h => f0 h, fun h => f1 h, fun h => f2 h, fun h => f3 h, fun h => f4 h, fun h => f5 h, fun h => f6 h, fun _ => rfl, fun h => f8 h, fun h => f9 h, fun h => f10 h, fun h => f11 h, fun h => f12 h, fun h => f13 h, fun h => f14 h, fun h => f15 h, fun h => f16 h, fun h => f17 h, fun h => f18 h, fun h => f19 h, fun h => f20 h, fun h => f21 h⟩
                        · intro L x a wR K hL hd hf hx hΦ hK
                          obtain ⟨hI, f0, f1, f2, f3, f4, f5, f6, f7, f8, f9, f10, f11, f12, f13, f14, f15, f16, f17, f18, f19, f20, f21⟩ := hΦ
                          refine ⟨fun _ => ?_, fun h => absurd h (by rw [Go.RE.wanted_none rfl]; decide)⟩
                          have d3 := f3 (hd 3 (by kernel_rfl))
                          have e100 : a.tmps[100]? = some (x 100) := hx 3 _ 100 rfl rfl (hd 3 (by kernel_rfl))
                          rw [d3] at e100
                          have d7 := f7 (hd 7 (by kernel_rfl))
                          have e104 : a.tmps[104]? = some (x 104) := hx 7 _ 104 rfl rfl (hd 7 (by kernel_rfl))
                          rw [d7] at e104
                          have e1 := HZ1.out
                          clear hf hx hd
                          go_simp
                          refine hK _ _ ?_
                          exact ⟨hI, fun h => f0 h, fun h => f1 h, fun h => f2 h, fun h => f3 h, fun h => f4 h, fun h => f5 h, fun h => f6 h, fun h => f7 h, fun _ => rfl, fun h => f9 h, fun h => f10 h, fun h => f11 h, fun h => f12 h, fun h => f13 h, fun h => f14 h, fun h => f15 h, fun h => f16 h, fun h => f17 h, fun h => f18 h, fun h => f19 h, fun h => f20 h, fun h => f21 h⟩
                        · intro L x a wR K hL hd hf hx hΦ hK
                          obtain ⟨hI, f0, f1, f2, f3, f4, f5, f6, f7, f8, f9, f10, f11, f12, f13, f14, f15, f16, f17, f18, f19, f20, f21⟩ := hΦ
                          refine ⟨fun _ => ?_, fun h => absurd h (by rw [Go.RE.wanted_none rfl]; decide)⟩
                          have d8 := f8 (hd 8 (by kernel_rfl))
                          have e105 : a.tmps[105]? = some (x 105) := hx 8 _ 105 rfl rfl (hd 8 (by kernel_rfl))
                          rw [d8] at e105
                          clear hf hx hd
                          go_simp
                          refine hK _ _ ?_
                          exact ⟨hI, fun h => f0 h, fun h => f1 h, fun h => f2 h, fun h => f3 h, fun h => f4 h, fun h => f5 h, fun h => f6 h, fun h => f7 h, fun h => f8 h, fun _ => rfl, fun h => f10 h, fun h => f11 h, fun h => f12 h, fun h => f13 h, fun h => f14 h, fun h => f15 h, fun h => f16 h, fun h => f17 h, fun h => f18 h, fun h => f19 h, fun h => f20 h, fun h => f21 h⟩
                        · intro L x a wR K hL hd hf hx hΦ hK
                          obtain ⟨hI, f0, f1, f2, f3, f4, f5, f6, f7, f8, f9, f10, f11, f12, f13, f14, f15, f16, f17, f18, f19, f20, f21⟩ := hΦ
                          refine ⟨fun _ => ?_, fun h => absurd h (by rw [Go.RE.wanted_none rfl]; decide)⟩
                          have d9 := f9 (hd 9 (by kernel_rfl))
                          have e106 : a.tmps[106]? = some (x 106) := hx 9 _ 106 rfl rfl (hd 9 (by kernel_rfl))
                          rw [d9] at e106
                          clear hf hx hd
                          go_simp
                          refine hK _ _ ?_
                          exact ⟨hI, fun h => f0 h, fun h => f1 h, fun h => f2 h, fun h => f3 h, fun h => f4 h, fun h => f5 h, fun h => f6 h, fun h => f7 h, fun h => f8 h, fun h => f9 h, fun _ => rfl, fun h => f11 h, fun h => f12 h, fun h => f13 h, fun h => f14 h, fun h => f15 h, fun h => f16 h, fun h => f17 h, fun h => f18 h, fun h => f19 h, fun h => f20 h, fun h => f21 h⟩
                        · intro L x a wR K hL hd hf hx hΦ hK
                          obtain ⟨hI, f0, f1, f2, f3, f4, f5, f6, f7, f8, f9, f10, f11, f12, f13, f14, f15, f16, f17, f18, f19, f20, f21⟩ := hΦ
                          have g10 := f10 (hd 10 (by kernel_rfl))
                          have ge : a.tmps[107]? = some (x 107) := hx 10 _ 107 rfl rfl (hd 10 (by kernel_rfl))
                          rw [g10] at ge
                          refine ⟨fun _ => ?_, fun h => absurd h (by rw [Go.RE.wanted_of rfl (Go.RE.yielded_of rfl rfl ge)]; decide)⟩
                          have e11 : a.tmps[11]? = some (.slice (some ⟨g3, 0, none⟩) n k3) := hf 11 (of_decide_eq_true (by kernel_rfl))
                          clear hf hx hd
                          go_simp
                          refine hK _ _ ?_
                          exact ⟨hI, fun h => f0 h, fun h => f1 h, fun h => f2 h, fun h => f3 h, fun h => f4 h, fun h => f5 h, fun h => f6 h, fun h => f7 h, fun h => f8 h, fun h => f9 h, fun h => f10 h, fun _ => rfl, fun h => f12 h, fun h => f13 h, fun h => f14 h, fun h => f15 h, fun h => f16 h, fun h => f17 h, fun h => f18 h, fun h => f19 h, fun h => f20 h, fun h => f21 h⟩
                        · intro L x a wR K hL hd hf hx hΦ hK
                          obtain ⟨hI, f0, f1, f2, f3, f4, f5, f6, f7, f8, f9, f10, f11, f12, f13, f14, f15, f16, f17, f18, f19, f20, f21⟩ := hΦ
                          have g10 := f10 (hd 10 (by kernel_rfl))
                          have ge : a.tmps[107]? = some (x 107) := hx 10 _ 107 rfl rfl (hd 10 (by kernel_rfl))
                          rw [g10] at ge
                          refine ⟨fun _ => ?_, fun h => absurd h (by rw [Go.RE.wanted_of rfl (Go.RE.yielded_of rfl rfl ge)]; decide)⟩
                          have e18 : a.tmps[18]? = some (.int .i64 (j : Int)) := hf 18 (of_decide_eq_true (by kernel_rfl))
                          clear hf hx hd
                          go_simp
                          refine hK _ _ ?_
                          exact ⟨hI, fun h => f0 h, fun h => f1 h, fun h => f2 h, fun h => f3 h, fun h => f4 h, fun h => f5 h, fun h => f6 h, fun h => f7 h, fun h => f8 h, fun h => f9 h, fun h => f10 h, fun h => f11 h, fun _ => rfl, fun h => f13 h, fun h => f14 h, fun h => f15 h, fun h => f16 h, fun h => f17 h, fun h => f18 h, fun h => f19 h, fun h => f20 h, fun h => f21 h⟩
                        · intro L x a wR K hL hd hf hx hΦ hK
                          obtain ⟨hI, f0, f1, f2, f3, f4, f5, f6, f7, f8, f9, f10, f11, f12, f13, f14, f15, f16, f17, f18, f19, f20, f21⟩ := hΦ
                          have g10 := f10 (hd 10 (by kernel_rfl))
                          have ge : a.tmps[107]? = some (x 107) := hx 10 _ 107 rfl rfl (hd 10 (by kernel_rfl))
                          rw [g10] at ge
                          refine ⟨fun _ => ?_, fun h => absurd h (by rw [Go.RE.wanted_of rfl (Go.RE.yielded_of rfl rfl ge)]; decide)⟩
                          have d11 := f11 (hd 11 (by kernel_rfl))
                          have e108 : a.tmps[108]? = some (x 108) := hx 11 _ 108 rfl rfl (hd 11 (by kernel_rfl))
                          rw [d11] at e108
                          have d12 := f12 (hd 12 (by kernel_rfl))
                          have e109 : a.tmps[109]? = some (x 109) := hx 12 _ 109 rfl rfl (hd 12 (by kernel_rfl))
                          rw [d12] at e109
                          have l1 := HK0.out
                          have l2 := HK1.out
                          clear hf hx hd
                          go_simp
                          refine hK _ _ ?_
                          exact ⟨hI, fun h => f0 h, fun h => f1 h, fun h => f2 h, fun h => f3 h, fun h => f4 h, fun h => f5 h, fun h => f6 h, fun h => f7 h, fun h => f8 h, fun h => f9 h, fun h => f10 h, fun h => f11 h, fun h => f12 h, fun _ => rfl, fun h => f14 h, fun h => f15 h, fun h => f16 h, fun h => f17 h, fun h => f18 h, fun h => f19 h, fun h => f20 h, fun h => f21 h⟩
                        · intro L x a wR K hL hd hf hx hΦ hK
                          obtain ⟨hI, f0, f1, f2, f3, f4, f5, f6, f7, f8, f9, f10, f11, f12, f13, f14, f15, f16, f17, f18, f19, f20, f21⟩ := hΦ
                          have g10 := f10 (hd 10 (by kernel_rfl))
                          have ge : a.tmps[107]? = some (x 107) := hx 10 _ 107 rfl rfl (hd 10 (by kernel_rfl))
                          rw [g10] at ge
                          refine ⟨fun _ => ?_, fun h => absurd h (by rw [Go.RE.wanted_of rfl (Go.RE.yielded_of rfl rfl ge)]; decide)⟩
                          have d13 := f13 (hd 13 (by kernel_rfl))
                          have e110 : a.tmps[110]? = some (x 110) := hx 13 _ 110 rfl rfl (hd 13 (by kernel_rfl))
                          rw [d13] at e110
                          obtain ⟨c1, c2, c3⟩ := HXC.out _ hI
                          clear hf hx hd
                          go_simp
                          refine hK _ _ ?_
                          exact ⟨hI, fun h => f0 h, fun h => f1 h, fun h => f2 h, fun h => f3 h, fun h => f4 h, fun h => f5 h, fun h => f6 h, fun h => f7 h, fun h => f8 h, fun h => f9 h, fun h => f10 h, fun h => f11 h, fun h => f12 h, fun h => f13 h, fun _ => rfl, fun h => f15 h, fun h => f16 h, fun h => f17 h, fun h => f18 h, fun h => f19 h, fun h => f20 h, fun h => f21 h⟩
                        · intro L x a wR K hL hd hf hx hΦ hK
                          obtain ⟨hI, f0, f1, f2, f3, f4, f5, f6, f7, f8, f9, f10, f11, f12, f13, f14, f15, f16, f17, f18, f19, f20, f21⟩ := hΦ
                          have g10 := f10 (hd 10 (by kernel_rfl))
                          have ge : a.tmps[107]? = some (x 107) := hx 10 _ 107 rfl rfl (hd 10 (by kernel_rfl))
                          rw [g10] at ge
                          refine ⟨fun _ => ?_, fun h => absurd h (by rw [Go.RE.wanted_of rfl (Go.RE.yielded_of rfl rfl ge)]; decide)⟩
                          have e16 : a.tmps[16]? = some (.slice (some ⟨g5, 0, none⟩) n k5) := hf 16 (of_decide_eq_true (by kernel_rfl))
                          clear hf hx hd
                          go_simp
                          refine hK _ _ ?_
                          exact ⟨hI, fun h => f0 h, fun h => f1 h, fun h => f2 h, fun h => f3 h, fun h => f4 h, fun h => f5 h, fun h => f6 h, fun h => f7 h, fun h => f8 h, fun h => f9 h, fun h => f10 h, fun h => f11 h, fun h => f12 h, fun h => f13 h, fun h => f14 h, fun _ => rfl, fun h => f16 h, fun h => f17 h, fun h => f18 h, fun h => f19 h, fun h => f20 h, fun h => f21 h⟩
                        · intro L x a wR K hL hd hf hx hΦ hK
                          obtain ⟨hI, f0, f1, f2, f3, f4, f5, f6, f7, f8, f9, f10, f11, f12, f13, f14, f15, f16, f17, f18, f19, f20, f21⟩ := hΦ
                          have g10 := f10 (hd 10 (by kernel_rfl))
                          have ge : a.tmps[107]? = some (x 107) := hx 10 _ 107 rfl rfl (hd 10 (by kernel_rfl))
                          rw [g10] at ge
                          refine ⟨fun _ => ?_, fun h => absurd h (by rw [Go.RE.wanted_of rfl (Go.RE.yielded_of rfl rfl ge)]; decide)⟩
                          have e18 : a.tmps[18]? = some (.int .i64 (j : Int)) := hf 18 (of_decide_eq_true (by kernel_rfl))
                          clear hf hx hd
                          go_simp
                          refine hK _ _ ?_
                          exact ⟨hI, fun h => f0 h, fun h => f1 h, fun h => f2 h, fun h => f3 h, fun h => f4 h, fun h => f5 h, fun h => f6 h, fun h => f7 h, fun h => f8 h, fun h => f9 h, fun h => f10 h, fun h => f11 h, fun h => f12 h, fun h => f13 h, fun h => f14 h, fun h => f15 h, fun _ => rfl, fun h => f17 h, fun h => f18 h, fun h => f19 h, fun h => f20 h, fun h => f21 h⟩
                        · intro L x a wR K hL hd hf hx hΦ hK
                          obtain ⟨hI, f0, f1, f2, f3, f4, f5, f6, f7, f8, f9, f10, f11, f12, f13, f14, f15, f16, f17, f18, f19, f20, f21⟩ := hΦ
                          have g10 := f10 (hd 10 (by kernel_rfl))
                          have ge : a.tmps[107]? = some (x 107) := hx 10 _ 107 rfl rfl (hd 10 (by kernel_rfl))
                          rw [g10] at ge
                          refine ⟨fun _ => ?_, fun h => absurd h (by rw [Go.RE.wanted_of rfl (Go.RE.yielded_of rfl rfl ge)]; decide)⟩
                          have d15 := f15 (hd 15 (by kernel_rfl))
                          have e112 : a.tmps[112]? = some (x 112) := hx 15 _ 112 rfl rfl (hd 15 (by kernel_rfl))
                          rw [d15] at e112
                          have d16 := f16 (hd 16 (by kernel_rfl))
                          have e113 : a.tmps[113]? = some (x 113) := hx 16 _ 113 rfl rfl (hd 16 (by kernel_rfl))
                          rw [d16] at e113
                          have l1 := HK0.out
                          have l2 := HK1.out
                          clear hf hx hd
                          go_simp
                          refine hK _ _ ?_
                          exact ⟨hI, fun h => f0 h, fun h => f1 h, fun h => f2 h, fun h => f3 h, fun h => f4 h, fun h => f5 h, fun h => f6 h, fun h => f7 h, fun h => f8 h, fun h => f9 h, fun h => f10 h, fun h => f11 h, fun h => f12 h, fun h => f13 h, fun h => f14 h, fun h => f15 h, fun h => f16 h, fun _ => rfl, fun h => f18 h, fun h => f19 h, fun h => f20 h, fun h => f21 h⟩
                        · intro L x a wR K hL hd hf hx hΦ hK
                          obtain ⟨hI, f0, f1, f2, f3, f4, f5, f6, f7, f8, f9, f10, f11, f12, f13, f14, f15, f16, f17, f18, f19, f20, f21⟩ := hΦ
                          have g10 := f10 (hd 10 (by kernel_rfl))
                          have ge : a.tmps[107]? = some (x 107) := hx 10 _ 107 rfl rfl (hd 10 (by kernel_rfl))
                          rw [g10] at ge
                          refine ⟨fun _ => ?_, fun h => absurd h (by rw [Go.RE.wanted_of rfl (Go.RE.yielded_of rfl rfl ge)]; decide)⟩
                          have d17 := f17 (hd 17 (by kernel_rfl))
                          have e114 : a.tmps[114]? = some (x 114) := hx 17 _ 114 rfl rfl (hd 17 (by kernel_rfl))
                          rw [d17] at e114
                          obtain ⟨c1, c2, c3⟩ := HXC.out _ hI
                          clear hf hx hd
                          go_simp
                          refine hK _ _ ?_
                          exact ⟨hI, fun h => f0 h, fun h => f1 h, fun h => f2 h, fun h => f3 h, fun h => f4 h, fun h => f5 h, fun h => f6 h, fun h => f7 h, fun h => f8 h, fun h => f9 h, fun h => f10 h, fun h => f11 h, fun h => f12 h, fun h => f13 h, fun h => f14 h, fun h => f15 h, fun h => f16 h, fun h => f17 h, fun _ => rfl, fun h => f19 h, fun h => f20 h, fun h => f21 h⟩
                        · intro L x a wR K hL hd hf hx hΦ hK
                          obtain ⟨hI, f0, f1, f2, f3, f4, f5, f6, f7, f8, f9, f10, f11, f12, f13, f14, f15, f16, f17, f18, f19, f20, f21⟩ := hΦ
                          have g10 := f10 (hd 10 (by kernel_rfl))
                          have ge : a.tmps[107]? = some (x 107) := hx 10 _ 107 rfl rfl (hd 10 (by kernel_rfl))
                          rw [g10] at ge
                          refine ⟨fun _ => ?_, fun h => absurd h (by rw [Go.RE.wanted_of rfl (Go.RE.yielded_of rfl rfl ge)]; decide)⟩
                          have d14 := f14 (hd 14 (by kernel_rfl))
                          have e111 : a.tmps[111]? = some (x 111) := hx 14 _ 111 rfl rfl (hd 14 (by kernel_rfl))
                          rw [d14] at e111
                          have d18 := f18 (hd 18 (by kernel_rfl))
                          have e115 : a.tmps[115]? = some (x 115) := hx 18 _ 115 rfl rfl (hd 18 (by kernel_rfl))
                          rw [d18] at e115
                          have e1 := HZ2.out
                          clear hf hx hd
                          go_simp
                          refine hK _ _ ?_
                          exact ⟨hI, fun h => f0 h, fun h => f1 h, fun h => f2 h, fun h => f3 h, fun h => f4 h, fun h => f5 h, fun h => f6 h, fun h => f7 h, fun h => f8 h, fun h => f9 h, fun h => f10 h, fun h => f11 h, fun h => f12 h, fun h => f13 h, fun h => f14 h, fun h => f15 h, fun h => f16 h, fun h => f17 h, fun h => f18 h, fun _ => rfl, fun h => f20 h, fun h => f21 h⟩
                        · intro L x a wR K hL hd hf hx hΦ hK
                          obtain ⟨hI, f0, f1, f2, f3, f4, f5, f6, f7, f8, f9, f10, f11, f12, f13, f14, f15, f16, f17, f18, f19, f20, f21⟩ := hΦ
                          have g10 := f10 (hd 10 (by kernel_rfl))
                          have ge : a.tmps[107]? = some (x 107) := hx 10 _ 107 rfl rfl (hd 10 (by kernel_rfl))
                          rw [g10] at ge
                          refine ⟨fun _ => ?_, fun h => absurd h (by rw [Go.RE.wanted_of rfl (Go.RE.yielded_of rfl rfl ge)]; decide)⟩
                          have d19 := f19 (hd 19 (by kernel_rfl))
                          have e116 : a.tmps[116]? = some (x 116) := hx 19 _ 116 rfl rfl (hd 19 (by kernel_rfl))
                          rw [d19] at e116
                          clear hf hx hd
                          go_simp
                          refine hK _ _ ?_
                          exact ⟨hI, fun h => f0 h, fun h => f1 h, fun h => f2 h, fun h => f3 h, fun h => f4 h, fun h => f5 h, fun h => f6 h, fun h => f7 h, fun h => f8 h, fun h => f9 h, fun h => f10 h, fun h => f11 h, fun h => f12 h, fun h => f13 h, fun h => f14 h, fun h => f15 h, fun h => f16 h, fun h => f17 h, fun h => f18 h, fun h => f19 h, fun _ => rfl, fun h => f21 h⟩
                        · intro L x a wR K hL hd hf hx hΦ hK
                          obtain ⟨hI, f0, f1, f2, f3, f4, f5, f6, f7, f8, f9, f10, f11, f12, f13, f14, f15, f16, f17, f18, f19, f20, f21⟩ := hΦ
                          refine ⟨fun _ => ?_, fun h => absurd h (by rw [Go.RE.wanted_none rfl]; decide)⟩
                          have d10 := f10 (hd 10 (by kernel_rfl))
                          have e107 : a.tmps[107]? = some (x 107) := hx 10 _ 107 rfl rfl (hd 10 (by kernel_rfl))
                          rw [d10] at e107
                          have d20 := f20 (hd 20 (by kernel_rfl))
                          have e117 : a.tmps[117]? = some (x 117) := hx 20 _ 117 rfl rfl (hd 20 (by kernel_rfl))
                          rw [d20] at e117
                          clear hf hx hd
                          go_simp
                          refine hK _ _ ?_
                          exact ⟨hI, fun h => f0 h, fun h => f1 h, fun h => f2 h, fun h => f3 h, fun h => f4 h, fun h => f5 h, fun h => f6 h, fun h => f7 h, fun h => f8 h, fun h => f9 h, fun h => f10 h, fun h => f11 h, fun h => f12 h, fun h => f13 h, fun h => f14 h, fun h => f15 h, fun h => f16 h, fun h => f17 h, fun h => f18 h, fun h => f19 h, fun h => f20 h, fun _ => rfl⟩
                        · rintro x W ⟨hI, f0, f1, f2, f3, f4, f5, f6, f7, f8, f9, f10, f11, f12, f13, f14, f15, f16, f17, f18, f19, f20, f21⟩
                          simp only [Exit.then]
                          go_step
                          go_meet
                          exact ⟨f21 rfl, hI⟩
                      case rest =>
                        obtain ⟨rfl, hB2⟩ := hcut
                        have HB2 := Lib.hid hB2
                        clear hB2
                        go_wp2_with (fail)
                        go_roundw
                        case rel => exact ⟨j + 1, by omega, by go_num, below_tr HB.out HB2.out⟩
                        case measure => simp [intOf]; omega
                    · obtain rfl : n = j := by omega
                      go_wp2_with (fail)
                      go_ret
                      exact ⟨rfl, below_tr HBL'.out HB.out⟩
end Go.Proofs.YtflmllablfjfeaaDoor
