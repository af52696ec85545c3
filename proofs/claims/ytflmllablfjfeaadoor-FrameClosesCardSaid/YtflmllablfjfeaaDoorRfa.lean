/- Frame: the reference's Sees (50), relation (48), fits (49), Fits (26). rfa.py prints this text. -/
import Derived.Test.YtflmllablfjfeaaDoorLen
namespace Go.Proofs.YtflmllablfjfeaaDoor
open Go.RowKit Go.HK Go.FR
set_option linter.unusedVariables false
set_option linter.unusedSimpArgs false
set_option linter.unusedSectionVars false
theorem two_bit (a u : Nat) : ((a >>> u : Nat) : Int).tmod 2 = (if a.testBit u = true then 1 else 0 : Int) ∧ ((a >>> u : Nat) : Int) % 2 = (if a.testBit u = true then 1 else 0 : Int) := by
 have h := testBit_one a u
 rw [Nat.and_one_is_mod] at h
 rcases e : a.testBit u with _ | _
 ·rw [e] at h
  have : a >>> u % 2 = 0 := by
   have h2 : ¬ a >>> u % 2 = 1 := fun h3 => by have := h.1 h3; cases this
   omega
  simp only [Bool.false_eq_true, if_false]
  exact ⟨by rw [show (2 : Int) = ((2 : Nat) : Int) from rfl, ← Int.ofNat_tmod, this]; rfl, by omega⟩
 ·have := h.2 e
  simp only [if_true]
  exact ⟨by rw [show (2 : Int) = ((2 : Nat) : Int) from rfl, ← Int.ofNat_tmod, this]; rfl, by omega⟩
set_option maxRecDepth 100000 in
set_option maxHeartbeats 1000000 in
theorem sees_call (w : World) (g o n c : Nat) (rel : List Nat) (hR : IsR w g o rel) (hn : rel.length = n) (i u : Nat) (hi : i < n) (hu : u < 32) :
  Calls Tryd.prog 50 #[.slice (some ⟨g, o, none⟩) n c, .int .i64 (i : Int), .int .i64 (u : Int)] w fun e w' => e = .returned (.bool ((rel.getD i 0).testBit u)) ∧ w' = w := by
 obtain ⟨x, hx⟩ : ∃ x, rel[i]? = some x := ⟨_, List.getElem?_eq_getElem (by omega)⟩
 have hc := hR i x hx
 rw [getD_get hx]
 have h0 : (0 : Int) ≤ (i : Int) := by omega
 have h1 : (i : Int) < (n : Int) := by omega
 have h2 : (0 : Int) ≤ (u : Int) := by omega
 have hmin : min u 64 = u := by omega
 have hq := quo_nat x u
 obtain ⟨y, hy⟩ : ∃ y, y = x >>> u := ⟨_, rfl⟩
 have ht := two_bit x u
 rw [← hy] at hq ht
 obtain ⟨b, hb⟩ : ∃ b, b = x.testBit u := ⟨_, rfl⟩
 rw [← hb] at ht ⊢
 clear hy hx hR hn hb
 rcases b with _ | _
 ·simp only [Bool.false_eq_true, if_false] at ht
  obtain ⟨t1, t2⟩ := ht
  go_enter Tryd.func50, Tryd.ntmps50
  go_wp2_with (fail)
  go_ret
  exact ⟨rfl, rfl⟩
 ·simp only [if_true] at ht
  obtain ⟨t1, t2⟩ := ht
  go_enter Tryd.func50, Tryd.ntmps50
  go_wp2_with (fail)
  go_ret
  exact ⟨rfl, rfl⟩
set_option maxRecDepth 100000 in
set_option maxHeartbeats 4000000 in
theorem rrelation_call (w : World) (z : SL) (zs : List Int) (hz : IsZs (fun k => k < w.heap.size) w z zs) (hle : zs.length ≤ 2000) : Calls Tryd.prog 48 #[z.v] w (RetW w (relB zs)) := by
 have hl := hz.1
 obtain ⟨za, n, zc⟩ := z
 simp only [] at hl
 have HZ := Lib.hid hz
 have HL := Lib.hid hl
 have hn2 : n ≤ 2000 := by omega
 obtain ⟨rb, hrb⟩ : ∃ rb, rb = relB zs := ⟨_, rfl⟩
 rw [← hrb]
 have HRB : Hid (rb = (decide (1 ≤ n) && decide (n ≤ 4) && relK n zs n)) := Lib.hid (by rw [hrb, hl]; rfl)
 simp only [SL.v]
 clear hz hl hle hrb
 go_enter Tryd.func48, Tryd.ntmps48
 go_wp2_with (fail)
 go_loopw [3] (fun i wr => ∃ k : Nat, k ≤ n ∧ i = .int .i64 k ∧ (n ≤ 4 → relK n zs k = true) ∧ (4 < n → k = 0) ∧ Below w.heap.size w wr) (fun i _ => n - (intOf i).toNat)
 case atStart => exact ⟨0, by omega, rfl, fun _ => rfl, fun _ => rfl, Below.refl _ _⟩
 case round =>
  obtain ⟨k, hk, rfl, hr, h40, hB⟩ := hrel
  have HRK := Lib.hid hr
  have H40 := Lib.hid h40
  have HB := Lib.hid hB
  clear hr h40 hB
  by_cases hkn : (k : Int) < (n : Int)
  ·have b0 : (0 : Int) ≤ (k : Int) := by omega
   obtain ⟨xr, hxr⟩ : ∃ x, zs[k]? = some x := ⟨_, List.getElem?_eq_getElem (by have := HL.out; omega)⟩
   obtain ⟨lg, lo, hza, hlg, _⟩ := HZ.out.2 k xr hxr
   simp only [] at hza
   subst hza
   have HC : Hid (∀ W, Below wr.heap.size wr W → W.cell? ⟨lg, lo + k, none⟩ = some (.int .i64 xr)) := Lib.hid fun W h => by
    have hbw := below_tr HB.out h
    have := (HZ.out.turn (T := fun k => k < W.heap.size) fun k hk => ⟨Nat.lt_of_lt_of_le hk hbw.size, hbw.block k hk⟩).z
    exact this k xr hxr
   have HX : Hid (zs.getD k 0 = xr) := Lib.hid (getD_getI hxr)
   have HK : Hid ((0 : Int) ≤ (k : Int) ∧ (k : Int) < (n : Int)) := Lib.hid ⟨b0, hkn⟩
   obtain ⟨bb, hbb⟩ : ∃ bb, bb = (decide (4 < n) || decide (xr < 0) || decide (((2 ^ n : Nat) : Int) ≤ xr)) := ⟨_, rfl⟩
   have HBB := Lib.hid hbb
   clear hxr hlg hbb b0
   go_upto_region 4 with (fail)
   go_cut [29] from 10 to 28 (fun v wx => v = .bool bb ∧ Below wr.heap.size wr wx)
   case rest =>
    obtain ⟨rfl, hB2⟩ := hcut
    have HB2 := Lib.hid (below_tr HB.out hB2)
    clear hB2
    rcases bb with _ | _
    ·have h5 := HBB.out.symm
     simp only [Bool.or_eq_false_iff, decide_eq_false_iff_not] at h5
     obtain ⟨⟨h6, h7⟩, h8⟩ := h5
     have HN : Hid (relK n zs (k + 1) = true) := Lib.hid (by unfold relK; rw [HRK.out (by omega), HX.out, decide_eq_true (show 0 ≤ xr by omega), decide_eq_true (by omega)]; rfl)
     have H9 : Hid (¬ 4 < n) := Lib.hid h6
     clear h6 h7 h8
     go_wp2_with (fail)
     go_roundw
     case rel => exact ⟨k + 1, by omega, by go_num, fun _ => HN.out, fun h => absurd h H9.out, HB2.out⟩
     case measure => simp [intOf]; omega
    ·have HN : Hid (rb = false) := Lib.hid (by
      have h5 := HBB.out.symm
      simp only [Bool.or_eq_true, decide_eq_true_iff] at h5
      rw [HRB.out]
      by_cases h4 : 4 < n
      ·rw [decide_eq_false (show ¬ n ≤ 4 by omega), Bool.and_false, Bool.false_and]
      ·rcases e : relK n zs n with _ | _
       ·rw [Bool.and_false]
       ·have := relK_get e (show k < n by omega)
        rw [HX.out] at this
        omega)
     go_wp2_with (fail)
     go_ret
     exact ⟨by rw [HN.out]; rfl, HB2.out⟩
   by_cases h4 : 4 < n
   ·have HE : Hid (bb = true) := Lib.hid (by rw [HBB.out, decide_eq_true h4]; rfl)
    have H4 : Hid ((4 : Int) < (n : Int)) := Lib.hid (by omega)
    clear h4
    refine Go.RE.wp_region_eachg [10, 11, 12, 13, 14, 15, 16, 17, 18, 19, 20, 21, 22, 23, 24, 25, 26, 27, 28, 29] (fun L x W => (Below wr.heap.size wr W) ∧ (L 0 = true → x 10 = .slice (some ⟨lg, lo, none⟩) n zc) ∧ (L 1 = true → x 11 = .int .i64 (n : Int)) ∧ (L 2 = true → x 12 = .bool true) ∧ (L 3 = true → x 13 = .bool true) ∧ (L 4 = true → x 14 = undef) ∧ (L 5 = true → x 15 = undef) ∧ (L 6 = true → x 16 = undef) ∧ (L 7 = true → x 17 = undef) ∧ (L 8 = true → x 18 = undef) ∧ (L 9 = true → x 19 = .bool true) ∧ (L 10 = true → x 20 = .bool true) ∧ (L 11 = true → x 21 = undef) ∧ (L 12 = true → x 22 = undef) ∧ (L 13 = true → x 23 = undef) ∧ (L 14 = true → x 24 = undef) ∧ (L 15 = true → x 25 = undef) ∧ (L 16 = true → x 26 = undef) ∧ (L 17 = true → x 27 = undef) ∧ (L 18 = true → x 28 = undef) ∧ (L 19 = true → x 29 = .bool true)) (by kernel_rfl) (by kernel_rfl) (by kernel_rfl) ?_ ((Go.RE.Each.cons ?_ (Go.RE.Each.cons ?_ (Go.RE.Each.cons ?_ (Go.RE.Each.cons ?_ (Go.RE.Each.cons ?_ (Go.RE.Each.cons ?_ (Go.RE.Each.cons ?_ (Go.RE.Each.cons ?_ (Go.RE.Each.cons ?_ (Go.RE.Each.cons ?_ (Go.RE.Each.cons ?_ (Go.RE.Each.cons ?_ (Go.RE.Each.cons ?_ (Go.RE.Each.cons ?_ (Go.RE.Each.cons ?_ (Go.RE.Each.cons ?_ (Go.RE.Each.cons ?_ (Go.RE.Each.cons ?_ (Go.RE.Each.cons ?_ (Go.RE.Each.cons ?_ Go.RE.Each.nil))))))))))))))))))))) ?_
    ·exact fun x => ⟨bl_dr (Below.refl _ _), nofun, nofun, nofun, nofun, nofun, nofun, nofun, nofun, nofun, nofun, nofun, nofun, nofun, nofun, nofun, nofun, nofun, nofun, nofun, nofun⟩
    ·intro L x a wR K hL hd hf hx hΦ hK
     obtain ⟨hI, f0, f1, f2, f3, f4, f5, f6, f7, f8, f9, f10, f11, f12, f13, f14, f15, f16, f17, f18, f19⟩ := hΦ
     refine ⟨fun _ => ?_, fun h => absurd h (by rw [Go.RE.wanted_none rfl]; decide)⟩
     have e0 : a.tmps[0]? = some (.slice (some ⟨lg, lo, none⟩) n zc) := hf 0 (of_decide_eq_true (by kernel_rfl))
     clear hf hx hd
     go_simp
     refine hK _ _ ?_
     exact ⟨hI, fun _ => rfl, f1, f2, f3, f4, f5, f6, f7, f8, f9, f10, f11, f12, f13, f14, f15, f16, f17, f18, f19⟩
    ·intro L x a wR K hL hd hf hx hΦ hK
     obtain ⟨hI, f0, f1, f2, f3, f4, f5, f6, f7, f8, f9, f10, f11, f12, f13, f14, f15, f16, f17, f18, f19⟩ := hΦ
     refine ⟨fun _ => ?_, fun h => absurd h (by rw [Go.RE.wanted_none rfl]; decide)⟩
     have d0 := f0 (hd 0 (by kernel_rfl))
     have e10 : a.tmps[10]? = some (x 10) := hx 0 _ 10 rfl rfl (hd 0 (by kernel_rfl))
     rw [d0] at e10
     clear hf hx hd
     go_simp
     refine hK _ _ ?_
     exact ⟨hI, f0, fun _ => rfl, f2, f3, f4, f5, f6, f7, f8, f9, f10, f11, f12, f13, f14, f15, f16, f17, f18, f19⟩
    ·intro L x a wR K hL hd hf hx hΦ hK
     obtain ⟨hI, f0, f1, f2, f3, f4, f5, f6, f7, f8, f9, f10, f11, f12, f13, f14, f15, f16, f17, f18, f19⟩ := hΦ
     refine ⟨fun _ => ?_, fun h => absurd h (by rw [Go.RE.wanted_none rfl]; decide)⟩
     have d1 := f1 (hd 1 (by kernel_rfl))
     have e11 : a.tmps[11]? = some (x 11) := hx 1 _ 11 rfl rfl (hd 1 (by kernel_rfl))
     rw [d1] at e11
     have l4 := H4.out
     clear hf hx hd
     go_simp
     refine hK _ _ ?_
     exact ⟨hI, f0, f1, fun _ => rfl, f3, f4, f5, f6, f7, f8, f9, f10, f11, f12, f13, f14, f15, f16, f17, f18, f19⟩
    ·intro L x a wR K hL hd hf hx hΦ hK
     obtain ⟨hI, f0, f1, f2, f3, f4, f5, f6, f7, f8, f9, f10, f11, f12, f13, f14, f15, f16, f17, f18, f19⟩ := hΦ
     refine ⟨fun _ => ?_, fun h => absurd h (by rw [Go.RE.wanted_none rfl]; decide)⟩
     have d2 := f2 (hd 2 (by kernel_rfl))
     have e12 : a.tmps[12]? = some (x 12) := hx 2 _ 12 rfl rfl (hd 2 (by kernel_rfl))
     rw [d2] at e12
     clear hf hx hd
     go_simp
     refine hK _ _ ?_
     exact ⟨hI, f0, f1, f2, fun _ => rfl, f4, f5, f6, f7, f8, f9, f10, f11, f12, f13, f14, f15, f16, f17, f18, f19⟩
    ·intro L x a wR K hL hd hf hx hΦ hK
     obtain ⟨hI, f0, f1, f2, f3, f4, f5, f6, f7, f8, f9, f10, f11, f12, f13, f14, f15, f16, f17, f18, f19⟩ := hΦ
     have g3 := f3 (hd 3 (by kernel_rfl))
     have ge : a.tmps[13]? = some (x 13) := hx 3 _ 13 rfl rfl (hd 3 (by kernel_rfl))
     rw [g3] at ge
     refine ⟨fun h => absurd h (by rw [Go.RE.wanted_of rfl (Go.RE.yielded_of rfl rfl ge)]; decide), fun _ => ?_⟩
     refine hK undef _ ?_
     exact ⟨hI, f0, f1, f2, f3, fun _ => rfl, f5, f6, f7, f8, f9, f10, f11, f12, f13, f14, f15, f16, f17, f18, f19⟩
    ·intro L x a wR K hL hd hf hx hΦ hK
     obtain ⟨hI, f0, f1, f2, f3, f4, f5, f6, f7, f8, f9, f10, f11, f12, f13, f14, f15, f16, f17, f18, f19⟩ := hΦ
     have g3 := f3 (hd 3 (by kernel_rfl))
     have ge : a.tmps[13]? = some (x 13) := hx 3 _ 13 rfl rfl (hd 3 (by kernel_rfl))
     rw [g3] at ge
     refine ⟨fun h => absurd h (by rw [Go.RE.wanted_of rfl (Go.RE.yielded_of rfl rfl ge)]; decide), fun _ => ?_⟩
     refine hK undef _ ?_
     exact ⟨hI, f0, f1, f2, f3, f4, fun _ => rfl, f6, f7, f8, f9, f10, f11, f12, f13, f14, f15, f16, f17, f18, f19⟩
    ·intro L x a wR K hL hd hf hx hΦ hK
     obtain ⟨hI, f0, f1, f2, f3, f4, f5, f6, f7, f8, f9, f10, f11, f12, f13, f14, f15, f16, f17, f18, f19⟩ := hΦ
     have g3 := f3 (hd 3 (by kernel_rfl))
     have ge : a.tmps[13]? = some (x 13) := hx 3 _ 13 rfl rfl (hd 3 (by kernel_rfl))
     rw [g3] at ge
     refine ⟨fun h => absurd h (by rw [Go.RE.wanted_of rfl (Go.RE.yielded_of rfl rfl ge)]; decide), fun _ => ?_⟩
     refine hK undef _ ?_
     exact ⟨hI, f0, f1, f2, f3, f4, f5, fun _ => rfl, f7, f8, f9, f10, f11, f12, f13, f14, f15, f16, f17, f18, f19⟩
    ·intro L x a wR K hL hd hf hx hΦ hK
     obtain ⟨hI, f0, f1, f2, f3, f4, f5, f6, f7, f8, f9, f10, f11, f12, f13, f14, f15, f16, f17, f18, f19⟩ := hΦ
     have g3 := f3 (hd 3 (by kernel_rfl))
     have ge : a.tmps[13]? = some (x 13) := hx 3 _ 13 rfl rfl (hd 3 (by kernel_rfl))
     rw [g3] at ge
     refine ⟨fun h => absurd h (by rw [Go.RE.wanted_of rfl (Go.RE.yielded_of rfl rfl ge)]; decide), fun _ => ?_⟩
     refine hK undef _ ?_
     exact ⟨hI, f0, f1, f2, f3, f4, f5, f6, fun _ => rfl, f8, f9, f10, f11, f12, f13, f14, f15, f16, f17, f18, f19⟩
    ·intro L x a wR K hL hd hf hx hΦ hK
     obtain ⟨hI, f0, f1, f2, f3, f4, f5, f6, f7, f8, f9, f10, f11, f12, f13, f14, f15, f16, f17, f18, f19⟩ := hΦ
     have g3 := f3 (hd 3 (by kernel_rfl))
     have ge : a.tmps[13]? = some (x 13) := hx 3 _ 13 rfl rfl (hd 3 (by kernel_rfl))
     rw [g3] at ge
     refine ⟨fun h => absurd h (by rw [Go.RE.wanted_of rfl (Go.RE.yielded_of rfl rfl ge)]; decide), fun _ => ?_⟩
     refine hK undef _ ?_
     exact ⟨hI, f0, f1, f2, f3, f4, f5, f6, f7, fun _ => rfl, f9, f10, f11, f12, f13, f14, f15, f16, f17, f18, f19⟩
    ·intro L x a wR K hL hd hf hx hΦ hK
     obtain ⟨hI, f0, f1, f2, f3, f4, f5, f6, f7, f8, f9, f10, f11, f12, f13, f14, f15, f16, f17, f18, f19⟩ := hΦ
     refine ⟨fun _ => ?_, fun h => absurd h (by rw [Go.RE.wanted_none rfl]; decide)⟩
     have d3 := f3 (hd 3 (by kernel_rfl))
     have e13 : a.tmps[13]? = some (x 13) := hx 3 _ 13 rfl rfl (hd 3 (by kernel_rfl))
     rw [d3] at e13
     have d8 := f8 (hd 8 (by kernel_rfl))
     have e18 : a.tmps[18]? = some (x 18) := hx 8 _ 18 rfl rfl (hd 8 (by kernel_rfl))
     rw [d8] at e18
     clear hf hx hd
     go_simp
     refine hK _ _ ?_
     exact ⟨hI, f0, f1, f2, f3, f4, f5, f6, f7, f8, fun _ => rfl, f10, f11, f12, f13, f14, f15, f16, f17, f18, f19⟩
    ·intro L x a wR K hL hd hf hx hΦ hK
     obtain ⟨hI, f0, f1, f2, f3, f4, f5, f6, f7, f8, f9, f10, f11, f12, f13, f14, f15, f16, f17, f18, f19⟩ := hΦ
     refine ⟨fun _ => ?_, fun h => absurd h (by rw [Go.RE.wanted_none rfl]; decide)⟩
     have d9 := f9 (hd 9 (by kernel_rfl))
     have e19 : a.tmps[19]? = some (x 19) := hx 9 _ 19 rfl rfl (hd 9 (by kernel_rfl))
     rw [d9] at e19
     clear hf hx hd
     go_simp
     refine hK _ _ ?_
     exact ⟨hI, f0, f1, f2, f3, f4, f5, f6, f7, f8, f9, fun _ => rfl, f11, f12, f13, f14, f15, f16, f17, f18, f19⟩
    ·intro L x a wR K hL hd hf hx hΦ hK
     obtain ⟨hI, f0, f1, f2, f3, f4, f5, f6, f7, f8, f9, f10, f11, f12, f13, f14, f15, f16, f17, f18, f19⟩ := hΦ
     have g10 := f10 (hd 10 (by kernel_rfl))
     have ge : a.tmps[20]? = some (x 20) := hx 10 _ 20 rfl rfl (hd 10 (by kernel_rfl))
     rw [g10] at ge
     refine ⟨fun h => absurd h (by rw [Go.RE.wanted_of rfl (Go.RE.yielded_of rfl rfl ge)]; decide), fun _ => ?_⟩
     refine hK undef _ ?_
     exact ⟨hI, f0, f1, f2, f3, f4, f5, f6, f7, f8, f9, f10, fun _ => rfl, f12, f13, f14, f15, f16, f17, f18, f19⟩
    ·intro L x a wR K hL hd hf hx hΦ hK
     obtain ⟨hI, f0, f1, f2, f3, f4, f5, f6, f7, f8, f9, f10, f11, f12, f13, f14, f15, f16, f17, f18, f19⟩ := hΦ
     have g10 := f10 (hd 10 (by kernel_rfl))
     have ge : a.tmps[20]? = some (x 20) := hx 10 _ 20 rfl rfl (hd 10 (by kernel_rfl))
     rw [g10] at ge
     refine ⟨fun h => absurd h (by rw [Go.RE.wanted_of rfl (Go.RE.yielded_of rfl rfl ge)]; decide), fun _ => ?_⟩
     refine hK undef _ ?_
     exact ⟨hI, f0, f1, f2, f3, f4, f5, f6, f7, f8, f9, f10, f11, fun _ => rfl, f13, f14, f15, f16, f17, f18, f19⟩
    ·intro L x a wR K hL hd hf hx hΦ hK
     obtain ⟨hI, f0, f1, f2, f3, f4, f5, f6, f7, f8, f9, f10, f11, f12, f13, f14, f15, f16, f17, f18, f19⟩ := hΦ
     have g10 := f10 (hd 10 (by kernel_rfl))
     have ge : a.tmps[20]? = some (x 20) := hx 10 _ 20 rfl rfl (hd 10 (by kernel_rfl))
     rw [g10] at ge
     refine ⟨fun h => absurd h (by rw [Go.RE.wanted_of rfl (Go.RE.yielded_of rfl rfl ge)]; decide), fun _ => ?_⟩
     refine hK undef _ ?_
     exact ⟨hI, f0, f1, f2, f3, f4, f5, f6, f7, f8, f9, f10, f11, f12, fun _ => rfl, f14, f15, f16, f17, f18, f19⟩
    ·intro L x a wR K hL hd hf hx hΦ hK
     obtain ⟨hI, f0, f1, f2, f3, f4, f5, f6, f7, f8, f9, f10, f11, f12, f13, f14, f15, f16, f17, f18, f19⟩ := hΦ
     have g10 := f10 (hd 10 (by kernel_rfl))
     have ge : a.tmps[20]? = some (x 20) := hx 10 _ 20 rfl rfl (hd 10 (by kernel_rfl))
     rw [g10] at ge
     refine ⟨fun h => absurd h (by rw [Go.RE.wanted_of rfl (Go.RE.yielded_of rfl rfl ge)]; decide), fun _ => ?_⟩
     refine hK undef _ ?_
     exact ⟨hI, f0, f1, f2, f3, f4, f5, f6, f7, f8, f9, f10, f11, f12, f13, fun _ => rfl, f15, f16, f17, f18, f19⟩
    ·intro L x a wR K hL hd hf hx hΦ hK
     obtain ⟨hI, f0, f1, f2, f3, f4, f5, f6, f7, f8, f9, f10, f11, f12, f13, f14, f15, f16, f17, f18, f19⟩ := hΦ
     have g10 := f10 (hd 10 (by kernel_rfl))
     have ge : a.tmps[20]? = some (x 20) := hx 10 _ 20 rfl rfl (hd 10 (by kernel_rfl))
     rw [g10] at ge
     refine ⟨fun h => absurd h (by rw [Go.RE.wanted_of rfl (Go.RE.yielded_of rfl rfl ge)]; decide), fun _ => ?_⟩
     refine hK undef _ ?_
     exact ⟨hI, f0, f1, f2, f3, f4, f5, f6, f7, f8, f9, f10, f11, f12, f13, f14, fun _ => rfl, f16, f17, f18, f19⟩
    ·intro L x a wR K hL hd hf hx hΦ hK
     obtain ⟨hI, f0, f1, f2, f3, f4, f5, f6, f7, f8, f9, f10, f11, f12, f13, f14, f15, f16, f17, f18, f19⟩ := hΦ
     have g10 := f10 (hd 10 (by kernel_rfl))
     have ge : a.tmps[20]? = some (x 20) := hx 10 _ 20 rfl rfl (hd 10 (by kernel_rfl))
     rw [g10] at ge
     refine ⟨fun h => absurd h (by rw [Go.RE.wanted_of rfl (Go.RE.yielded_of rfl rfl ge)]; decide), fun _ => ?_⟩
     refine hK undef _ ?_
     exact ⟨hI, f0, f1, f2, f3, f4, f5, f6, f7, f8, f9, f10, f11, f12, f13, f14, f15, fun _ => rfl, f17, f18, f19⟩
    ·intro L x a wR K hL hd hf hx hΦ hK
     obtain ⟨hI, f0, f1, f2, f3, f4, f5, f6, f7, f8, f9, f10, f11, f12, f13, f14, f15, f16, f17, f18, f19⟩ := hΦ
     have g10 := f10 (hd 10 (by kernel_rfl))
     have ge : a.tmps[20]? = some (x 20) := hx 10 _ 20 rfl rfl (hd 10 (by kernel_rfl))
     rw [g10] at ge
     refine ⟨fun h => absurd h (by rw [Go.RE.wanted_of rfl (Go.RE.yielded_of rfl rfl ge)]; decide), fun _ => ?_⟩
     refine hK undef _ ?_
     exact ⟨hI, f0, f1, f2, f3, f4, f5, f6, f7, f8, f9, f10, f11, f12, f13, f14, f15, f16, fun _ => rfl, f18, f19⟩
    ·intro L x a wR K hL hd hf hx hΦ hK
     obtain ⟨hI, f0, f1, f2, f3, f4, f5, f6, f7, f8, f9, f10, f11, f12, f13, f14, f15, f16, f17, f18, f19⟩ := hΦ
     have g10 := f10 (hd 10 (by kernel_rfl))
     have ge : a.tmps[20]? = some (x 20) := hx 10 _ 20 rfl rfl (hd 10 (by kernel_rfl))
     rw [g10] at ge
     refine ⟨fun h => absurd h (by rw [Go.RE.wanted_of rfl (Go.RE.yielded_of rfl rfl ge)]; decide), fun _ => ?_⟩
     refine hK undef _ ?_
     exact ⟨hI, f0, f1, f2, f3, f4, f5, f6, f7, f8, f9, f10, f11, f12, f13, f14, f15, f16, f17, fun _ => rfl, f19⟩
    ·intro L x a wR K hL hd hf hx hΦ hK
     obtain ⟨hI, f0, f1, f2, f3, f4, f5, f6, f7, f8, f9, f10, f11, f12, f13, f14, f15, f16, f17, f18, f19⟩ := hΦ
     refine ⟨fun _ => ?_, fun h => absurd h (by rw [Go.RE.wanted_none rfl]; decide)⟩
     have d10 := f10 (hd 10 (by kernel_rfl))
     have e20 : a.tmps[20]? = some (x 20) := hx 10 _ 20 rfl rfl (hd 10 (by kernel_rfl))
     rw [d10] at e20
     have d18 := f18 (hd 18 (by kernel_rfl))
     have e28 : a.tmps[28]? = some (x 28) := hx 18 _ 28 rfl rfl (hd 18 (by kernel_rfl))
     rw [d18] at e28
     clear hf hx hd
     go_simp
     refine hK _ _ ?_
     exact ⟨hI, f0, f1, f2, f3, f4, f5, f6, f7, f8, f9, f10, f11, f12, f13, f14, f15, f16, f17, f18, fun _ => rfl⟩
    ·rintro x W ⟨hI, f0, f1, f2, f3, f4, f5, f6, f7, f8, f9, f10, f11, f12, f13, f14, f15, f16, f17, f18, f19⟩
     simp only [Exit.then]
     go_step
     go_meet
     exact ⟨by rw [HE.out]; exact f19 rfl, hI⟩
   ·have H4 : Hid (¬ (4 : Int) < (n : Int)) := Lib.hid (by omega)
    by_cases h5 : xr < 0
    ·have HE : Hid (bb = true) := Lib.hid (by rw [HBB.out, decide_eq_true h5, Bool.or_true]; rfl)
     have H5 := Lib.hid h5
     clear h4 h5
     refine Go.RE.wp_region_eachg [10, 11, 12, 13, 14, 15, 16, 17, 18, 19, 20, 21, 22, 23, 24, 25, 26, 27, 28, 29] (fun L x W => (Below wr.heap.size wr W) ∧ (L 0 = true → x 10 = .slice (some ⟨lg, lo, none⟩) n zc) ∧ (L 1 = true → x 11 = .int .i64 (n : Int)) ∧ (L 2 = true → x 12 = .bool false) ∧ (L 3 = true → x 13 = .bool false) ∧ (L 4 = true → x 14 = .slice (some ⟨lg, lo, none⟩) n zc) ∧ (L 5 = true → x 15 = .int .i64 (k : Int)) ∧ (L 6 = true → x 16 = .pointer (some ⟨lg, lo + k, none⟩)) ∧ (L 7 = true → x 17 = .int .i64 xr) ∧ (L 8 = true → x 18 = .bool true) ∧ (L 9 = true → x 19 = .bool true) ∧ (L 10 = true → x 20 = .bool true) ∧ (L 11 = true → x 21 = undef) ∧ (L 12 = true → x 22 = undef) ∧ (L 13 = true → x 23 = undef) ∧ (L 14 = true → x 24 = undef) ∧ (L 15 = true → x 25 = undef) ∧ (L 16 = true → x 26 = undef) ∧ (L 17 = true → x 27 = undef) ∧ (L 18 = true → x 28 = undef) ∧ (L 19 = true → x 29 = .bool true)) (by kernel_rfl) (by kernel_rfl) (by kernel_rfl) ?_ ((Go.RE.Each.cons ?_ (Go.RE.Each.cons ?_ (Go.RE.Each.cons ?_ (Go.RE.Each.cons ?_ (Go.RE.Each.cons ?_ (Go.RE.Each.cons ?_ (Go.RE.Each.cons ?_ (Go.RE.Each.cons ?_ (Go.RE.Each.cons ?_ (Go.RE.Each.cons ?_ (Go.RE.Each.cons ?_ (Go.RE.Each.cons ?_ (Go.RE.Each.cons ?_ (Go.RE.Each.cons ?_ (Go.RE.Each.cons ?_ (Go.RE.Each.cons ?_ (Go.RE.Each.cons ?_ (Go.RE.Each.cons ?_ (Go.RE.Each.cons ?_ (Go.RE.Each.cons ?_ Go.RE.Each.nil))))))))))))))))))))) ?_
     ·exact fun x => ⟨bl_dr (Below.refl _ _), nofun, nofun, nofun, nofun, nofun, nofun, nofun, nofun, nofun, nofun, nofun, nofun, nofun, nofun, nofun, nofun, nofun, nofun, nofun, nofun⟩
     ·intro L x a wR K hL hd hf hx hΦ hK
      obtain ⟨hI, f0, f1, f2, f3, f4, f5, f6, f7, f8, f9, f10, f11, f12, f13, f14, f15, f16, f17, f18, f19⟩ := hΦ
      refine ⟨fun _ => ?_, fun h => absurd h (by rw [Go.RE.wanted_none rfl]; decide)⟩
      have e0 : a.tmps[0]? = some (.slice (some ⟨lg, lo, none⟩) n zc) := hf 0 (of_decide_eq_true (by kernel_rfl))
      clear hf hx hd
      go_simp
      refine hK _ _ ?_
      exact ⟨hI, fun _ => rfl, f1, f2, f3, f4, f5, f6, f7, f8, f9, f10, f11, f12, f13, f14, f15, f16, f17, f18, f19⟩
     ·intro L x a wR K hL hd hf hx hΦ hK
      obtain ⟨hI, f0, f1, f2, f3, f4, f5, f6, f7, f8, f9, f10, f11, f12, f13, f14, f15, f16, f17, f18, f19⟩ := hΦ
      refine ⟨fun _ => ?_, fun h => absurd h (by rw [Go.RE.wanted_none rfl]; decide)⟩
      have d0 := f0 (hd 0 (by kernel_rfl))
      have e10 : a.tmps[10]? = some (x 10) := hx 0 _ 10 rfl rfl (hd 0 (by kernel_rfl))
      rw [d0] at e10
      clear hf hx hd
      go_simp
      refine hK _ _ ?_
      exact ⟨hI, f0, fun _ => rfl, f2, f3, f4, f5, f6, f7, f8, f9, f10, f11, f12, f13, f14, f15, f16, f17, f18, f19⟩
     ·intro L x a wR K hL hd hf hx hΦ hK
      obtain ⟨hI, f0, f1, f2, f3, f4, f5, f6, f7, f8, f9, f10, f11, f12, f13, f14, f15, f16, f17, f18, f19⟩ := hΦ
      refine ⟨fun _ => ?_, fun h => absurd h (by rw [Go.RE.wanted_none rfl]; decide)⟩
      have d1 := f1 (hd 1 (by kernel_rfl))
      have e11 : a.tmps[11]? = some (x 11) := hx 1 _ 11 rfl rfl (hd 1 (by kernel_rfl))
      rw [d1] at e11
      have l4 := H4.out
      clear hf hx hd
      go_simp
      refine hK _ _ ?_
      exact ⟨hI, f0, f1, fun _ => rfl, f3, f4, f5, f6, f7, f8, f9, f10, f11, f12, f13, f14, f15, f16, f17, f18, f19⟩
     ·intro L x a wR K hL hd hf hx hΦ hK
      obtain ⟨hI, f0, f1, f2, f3, f4, f5, f6, f7, f8, f9, f10, f11, f12, f13, f14, f15, f16, f17, f18, f19⟩ := hΦ
      refine ⟨fun _ => ?_, fun h => absurd h (by rw [Go.RE.wanted_none rfl]; decide)⟩
      have d2 := f2 (hd 2 (by kernel_rfl))
      have e12 : a.tmps[12]? = some (x 12) := hx 2 _ 12 rfl rfl (hd 2 (by kernel_rfl))
      rw [d2] at e12
      clear hf hx hd
      go_simp
      refine hK _ _ ?_
      exact ⟨hI, f0, f1, f2, fun _ => rfl, f4, f5, f6, f7, f8, f9, f10, f11, f12, f13, f14, f15, f16, f17, f18, f19⟩
     ·intro L x a wR K hL hd hf hx hΦ hK
      obtain ⟨hI, f0, f1, f2, f3, f4, f5, f6, f7, f8, f9, f10, f11, f12, f13, f14, f15, f16, f17, f18, f19⟩ := hΦ
      have g3 := f3 (hd 3 (by kernel_rfl))
      have ge : a.tmps[13]? = some (x 13) := hx 3 _ 13 rfl rfl (hd 3 (by kernel_rfl))
      rw [g3] at ge
      refine ⟨fun _ => ?_, fun h => absurd h (by rw [Go.RE.wanted_of rfl (Go.RE.yielded_of rfl rfl ge)]; decide)⟩
      have e0 : a.tmps[0]? = some (.slice (some ⟨lg, lo, none⟩) n zc) := hf 0 (of_decide_eq_true (by kernel_rfl))
      clear hf hx hd
      go_simp
      refine hK _ _ ?_
      exact ⟨hI, f0, f1, f2, f3, fun _ => rfl, f5, f6, f7, f8, f9, f10, f11, f12, f13, f14, f15, f16, f17, f18, f19⟩
     ·intro L x a wR K hL hd hf hx hΦ hK
      obtain ⟨hI, f0, f1, f2, f3, f4, f5, f6, f7, f8, f9, f10, f11, f12, f13, f14, f15, f16, f17, f18, f19⟩ := hΦ
      have g3 := f3 (hd 3 (by kernel_rfl))
      have ge : a.tmps[13]? = some (x 13) := hx 3 _ 13 rfl rfl (hd 3 (by kernel_rfl))
      rw [g3] at ge
      refine ⟨fun _ => ?_, fun h => absurd h (by rw [Go.RE.wanted_of rfl (Go.RE.yielded_of rfl rfl ge)]; decide)⟩
      have e3 : a.tmps[3]? = some (.int .i64 (k : Int)) := hf 3 (of_decide_eq_true (by kernel_rfl))
      clear hf hx hd
      go_simp
      refine hK _ _ ?_
      exact ⟨hI, f0, f1, f2, f3, f4, fun _ => rfl, f6, f7, f8, f9, f10, f11, f12, f13, f14, f15, f16, f17, f18, f19⟩
     ·intro L x a wR K hL hd hf hx hΦ hK
      obtain ⟨hI, f0, f1, f2, f3, f4, f5, f6, f7, f8, f9, f10, f11, f12, f13, f14, f15, f16, f17, f18, f19⟩ := hΦ
      have g3 := f3 (hd 3 (by kernel_rfl))
      have ge : a.tmps[13]? = some (x 13) := hx 3 _ 13 rfl rfl (hd 3 (by kernel_rfl))
      rw [g3] at ge
      refine ⟨fun _ => ?_, fun h => absurd h (by rw [Go.RE.wanted_of rfl (Go.RE.yielded_of rfl rfl ge)]; decide)⟩
      have d4 := f4 (hd 4 (by kernel_rfl))
      have e14 : a.tmps[14]? = some (x 14) := hx 4 _ 14 rfl rfl (hd 4 (by kernel_rfl))
      rw [d4] at e14
      have d5 := f5 (hd 5 (by kernel_rfl))
      have e15 : a.tmps[15]? = some (x 15) := hx 5 _ 15 rfl rfl (hd 5 (by kernel_rfl))
      rw [d5] at e15
      have l1 := HK.out.1
      have l2 := HK.out.2
      clear hf hx hd
      go_simp
      refine hK _ _ ?_
      exact ⟨hI, f0, f1, f2, f3, f4, f5, fun _ => rfl, f7, f8, f9, f10, f11, f12, f13, f14, f15, f16, f17, f18, f19⟩
     ·intro L x a wR K hL hd hf hx hΦ hK
      obtain ⟨hI, f0, f1, f2, f3, f4, f5, f6, f7, f8, f9, f10, f11, f12, f13, f14, f15, f16, f17, f18, f19⟩ := hΦ
      have g3 := f3 (hd 3 (by kernel_rfl))
      have ge : a.tmps[13]? = some (x 13) := hx 3 _ 13 rfl rfl (hd 3 (by kernel_rfl))
      rw [g3] at ge
      refine ⟨fun _ => ?_, fun h => absurd h (by rw [Go.RE.wanted_of rfl (Go.RE.yielded_of rfl rfl ge)]; decide)⟩
      have d6 := f6 (hd 6 (by kernel_rfl))
      have e16 : a.tmps[16]? = some (x 16) := hx 6 _ 16 rfl rfl (hd 6 (by kernel_rfl))
      rw [d6] at e16
      have c := HC.out _ hI
      clear hf hx hd
      go_simp
      refine hK _ _ ?_
      exact ⟨hI, f0, f1, f2, f3, f4, f5, f6, fun _ => rfl, f8, f9, f10, f11, f12, f13, f14, f15, f16, f17, f18, f19⟩
     ·intro L x a wR K hL hd hf hx hΦ hK
      obtain ⟨hI, f0, f1, f2, f3, f4, f5, f6, f7, f8, f9, f10, f11, f12, f13, f14, f15, f16, f17, f18, f19⟩ := hΦ
      have g3 := f3 (hd 3 (by kernel_rfl))
      have ge : a.tmps[13]? = some (x 13) := hx 3 _ 13 rfl rfl (hd 3 (by kernel_rfl))
      rw [g3] at ge
      refine ⟨fun _ => ?_, fun h => absurd h (by rw [Go.RE.wanted_of rfl (Go.RE.yielded_of rfl rfl ge)]; decide)⟩
      have d7 := f7 (hd 7 (by kernel_rfl))
      have e17 : a.tmps[17]? = some (x 17) := hx 7 _ 17 rfl rfl (hd 7 (by kernel_rfl))
      rw [d7] at e17
      have l5 := H5.out
      clear hf hx hd
      go_simp
      refine hK _ _ ?_
      exact ⟨hI, f0, f1, f2, f3, f4, f5, f6, f7, fun _ => rfl, f9, f10, f11, f12, f13, f14, f15, f16, f17, f18, f19⟩
     ·intro L x a wR K hL hd hf hx hΦ hK
      obtain ⟨hI, f0, f1, f2, f3, f4, f5, f6, f7, f8, f9, f10, f11, f12, f13, f14, f15, f16, f17, f18, f19⟩ := hΦ
      refine ⟨fun _ => ?_, fun h => absurd h (by rw [Go.RE.wanted_none rfl]; decide)⟩
      have d3 := f3 (hd 3 (by kernel_rfl))
      have e13 : a.tmps[13]? = some (x 13) := hx 3 _ 13 rfl rfl (hd 3 (by kernel_rfl))
      rw [d3] at e13
      have d8 := f8 (hd 8 (by kernel_rfl))
      have e18 : a.tmps[18]? = some (x 18) := hx 8 _ 18 rfl rfl (hd 8 (by kernel_rfl))
      rw [d8] at e18
      clear hf hx hd
      go_simp
      refine hK _ _ ?_
      exact ⟨hI, f0, f1, f2, f3, f4, f5, f6, f7, f8, fun _ => rfl, f10, f11, f12, f13, f14, f15, f16, f17, f18, f19⟩
     ·intro L x a wR K hL hd hf hx hΦ hK
      obtain ⟨hI, f0, f1, f2, f3, f4, f5, f6, f7, f8, f9, f10, f11, f12, f13, f14, f15, f16, f17, f18, f19⟩ := hΦ
      refine ⟨fun _ => ?_, fun h => absurd h (by rw [Go.RE.wanted_none rfl]; decide)⟩
      have d9 := f9 (hd 9 (by kernel_rfl))
      have e19 : a.tmps[19]? = some (x 19) := hx 9 _ 19 rfl rfl (hd 9 (by kernel_rfl))
      rw [d9] at e19
      clear hf hx hd
      go_simp
      refine hK _ _ ?_
      exact ⟨hI, f0, f1, f2, f3, f4, f5, f6, f7, f8, f9, fun _ => rfl, f11, f12, f13, f14, f15, f16, f17, f18, f19⟩
     ·intro L x a wR K hL hd hf hx hΦ hK
      obtain ⟨hI, f0, f1, f2, f3, f4, f5, f6, f7, f8, f9, f10, f11, f12, f13, f14, f15, f16, f17, f18, f19⟩ := hΦ
      have g10 := f10 (hd 10 (by kernel_rfl))
      have ge : a.tmps[20]? = some (x 20) := hx 10 _ 20 rfl rfl (hd 10 (by kernel_rfl))
      rw [g10] at ge
      refine ⟨fun h => absurd h (by rw [Go.RE.wanted_of rfl (Go.RE.yielded_of rfl rfl ge)]; decide), fun _ => ?_⟩
      refine hK undef _ ?_
      exact ⟨hI, f0, f1, f2, f3, f4, f5, f6, f7, f8, f9, f10, fun _ => rfl, f12, f13, f14, f15, f16, f17, f18, f19⟩
     ·intro L x a wR K hL hd hf hx hΦ hK
      obtain ⟨hI, f0, f1, f2, f3, f4, f5, f6, f7, f8, f9, f10, f11, f12, f13, f14, f15, f16, f17, f18, f19⟩ := hΦ
      have g10 := f10 (hd 10 (by kernel_rfl))
      have ge : a.tmps[20]? = some (x 20) := hx 10 _ 20 rfl rfl (hd 10 (by kernel_rfl))
      rw [g10] at ge
      refine ⟨fun h => absurd h (by rw [Go.RE.wanted_of rfl (Go.RE.yielded_of rfl rfl ge)]; decide), fun _ => ?_⟩
      refine hK undef _ ?_
      exact ⟨hI, f0, f1, f2, f3, f4, f5, f6, f7, f8, f9, f10, f11, fun _ => rfl, f13, f14, f15, f16, f17, f18, f19⟩
     ·intro L x a wR K hL hd hf hx hΦ hK
      obtain ⟨hI, f0, f1, f2, f3, f4, f5, f6, f7, f8, f9, f10, f11, f12, f13, f14, f15, f16, f17, f18, f19⟩ := hΦ
      have g10 := f10 (hd 10 (by kernel_rfl))
      have ge : a.tmps[20]? = some (x 20) := hx 10 _ 20 rfl rfl (hd 10 (by kernel_rfl))
      rw [g10] at ge
      refine ⟨fun h => absurd h (by rw [Go.RE.wanted_of rfl (Go.RE.yielded_of rfl rfl ge)]; decide), fun _ => ?_⟩
      refine hK undef _ ?_
      exact ⟨hI, f0, f1, f2, f3, f4, f5, f6, f7, f8, f9, f10, f11, f12, fun _ => rfl, f14, f15, f16, f17, f18, f19⟩
     ·intro L x a wR K hL hd hf hx hΦ hK
      obtain ⟨hI, f0, f1, f2, f3, f4, f5, f6, f7, f8, f9, f10, f11, f12, f13, f14, f15, f16, f17, f18, f19⟩ := hΦ
      have g10 := f10 (hd 10 (by kernel_rfl))
      have ge : a.tmps[20]? = some (x 20) := hx 10 _ 20 rfl rfl (hd 10 (by kernel_rfl))
      rw [g10] at ge
      refine ⟨fun h => absurd h (by rw [Go.RE.wanted_of rfl (Go.RE.yielded_of rfl rfl ge)]; decide), fun _ => ?_⟩
      refine hK undef _ ?_
      exact ⟨hI, f0, f1, f2, f3, f4, f5, f6, f7, f8, f9, f10, f11, f12, f13, fun _ => rfl, f15, f16, f17, f18, f19⟩
     ·intro L x a wR K hL hd hf hx hΦ hK
      obtain ⟨hI, f0, f1, f2, f3, f4, f5, f6, f7, f8, f9, f10, f11, f12, f13, f14, f15, f16, f17, f18, f19⟩ := hΦ
      have g10 := f10 (hd 10 (by kernel_rfl))
      have ge : a.tmps[20]? = some (x 20) := hx 10 _ 20 rfl rfl (hd 10 (by kernel_rfl))
      rw [g10] at ge
      refine ⟨fun h => absurd h (by rw [Go.RE.wanted_of rfl (Go.RE.yielded_of rfl rfl ge)]; decide), fun _ => ?_⟩
      refine hK undef _ ?_
      exact ⟨hI, f0, f1, f2, f3, f4, f5, f6, f7, f8, f9, f10, f11, f12, f13, f14, fun _ => rfl, f16, f17, f18, f19⟩
     ·intro L x a wR K hL hd hf hx hΦ hK
      obtain ⟨hI, f0, f1, f2, f3, f4, f5, f6, f7, f8, f9, f10, f11, f12, f13, f14, f15, f16, f17, f18, f19⟩ := hΦ
      have g10 := f10 (hd 10 (by kernel_rfl))
      have ge : a.tmps[20]? = some (x 20) := hx 10 _ 20 rfl rfl (hd 10 (by kernel_rfl))
      rw [g10] at ge
      refine ⟨fun h => absurd h (by rw [Go.RE.wanted_of rfl (Go.RE.yielded_of rfl rfl ge)]; decide), fun _ => ?_⟩
      refine hK undef _ ?_
      exact ⟨hI, f0, f1, f2, f3, f4, f5, f6, f7, f8, f9, f10, f11, f12, f13, f14, f15, fun _ => rfl, f17, f18, f19⟩
     ·intro L x a wR K hL hd hf hx hΦ hK
      obtain ⟨hI, f0, f1, f2, f3, f4, f5, f6, f7, f8, f9, f10, f11, f12, f13, f14, f15, f16, f17, f18, f19⟩ := hΦ
      have g10 := f10 (hd 10 (by kernel_rfl))
      have ge : a.tmps[20]? = some (x 20) := hx 10 _ 20 rfl rfl (hd 10 (by kernel_rfl))
      rw [g10] at ge
      refine ⟨fun h => absurd h (by rw [Go.RE.wanted_of rfl (Go.RE.yielded_of rfl rfl ge)]; decide), fun _ => ?_⟩
      refine hK undef _ ?_
      exact ⟨hI, f0, f1, f2, f3, f4, f5, f6, f7, f8, f9, f10, f11, f12, f13, f14, f15, f16, fun _ => rfl, f18, f19⟩
     ·intro L x a wR K hL hd hf hx hΦ hK
      obtain ⟨hI, f0, f1, f2, f3, f4, f5, f6, f7, f8, f9, f10, f11, f12, f13, f14, f15, f16, f17, f18, f19⟩ := hΦ
      have g10 := f10 (hd 10 (by kernel_rfl))
      have ge : a.tmps[20]? = some (x 20) := hx 10 _ 20 rfl rfl (hd 10 (by kernel_rfl))
      rw [g10] at ge
      refine ⟨fun h => absurd h (by rw [Go.RE.wanted_of rfl (Go.RE.yielded_of rfl rfl ge)]; decide), fun _ => ?_⟩
      refine hK undef _ ?_
      exact ⟨hI, f0, f1, f2, f3, f4, f5, f6, f7, f8, f9, f10, f11, f12, f13, f14, f15, f16, f17, fun _ => rfl, f19⟩
     ·intro L x a wR K hL hd hf hx hΦ hK
      obtain ⟨hI, f0, f1, f2, f3, f4, f5, f6, f7, f8, f9, f10, f11, f12, f13, f14, f15, f16, f17, f18, f19⟩ := hΦ
      refine ⟨fun _ => ?_, fun h => absurd h (by rw [Go.RE.wanted_none rfl]; decide)⟩
      have d10 := f10 (hd 10 (by kernel_rfl))
      have e20 : a.tmps[20]? = some (x 20) := hx 10 _ 20 rfl rfl (hd 10 (by kernel_rfl))
      rw [d10] at e20
      have d18 := f18 (hd 18 (by kernel_rfl))
      have e28 : a.tmps[28]? = some (x 28) := hx 18 _ 28 rfl rfl (hd 18 (by kernel_rfl))
      rw [d18] at e28
      clear hf hx hd
      go_simp
      refine hK _ _ ?_
      exact ⟨hI, f0, f1, f2, f3, f4, f5, f6, f7, f8, f9, f10, f11, f12, f13, f14, f15, f16, f17, f18, fun _ => rfl⟩
     ·rintro x W ⟨hI, f0, f1, f2, f3, f4, f5, f6, f7, f8, f9, f10, f11, f12, f13, f14, f15, f16, f17, f18, f19⟩
      simp only [Exit.then]
      go_step
      go_meet
      exact ⟨by rw [HE.out]; exact f19 rfl, hI⟩
    ·have H5 := Lib.hid h5
     have fz1 := shl_wrap (k := n) (by omega)
     obtain ⟨y, hy⟩ : ∃ y, y = 1 <<< n := ⟨_, rfl⟩
     have hy2 : 2 ^ n = y := by rw [hy, Nat.one_shiftLeft]
     rw [← hy] at fz1
     have HF1 := Lib.hid fz1
     have HMN : Hid (min n 64 = n) := Lib.hid (by omega)
     have HQN : Hid ((0 : Int) ≤ (n : Int)) := Lib.hid (by omega)
     by_cases h6 : (y : Int) ≤ xr
     ·have HE : Hid (bb = true) := Lib.hid (by rw [HBB.out, hy2, decide_eq_true h6, Bool.or_true])
      have H6 := Lib.hid h6
      clear h4 h5 h6 fz1 hy hy2
      refine Go.RE.wp_region_eachg [10, 11, 12, 13, 14, 15, 16, 17, 18, 19, 20, 21, 22, 23, 24, 25, 26, 27, 28, 29] (fun L x W => (Below wr.heap.size wr W) ∧ (L 0 = true → x 10 = .slice (some ⟨lg, lo, none⟩) n zc) ∧ (L 1 = true → x 11 = .int .i64 (n : Int)) ∧ (L 2 = true → x 12 = .bool false) ∧ (L 3 = true → x 13 = .bool false) ∧ (L 4 = true → x 14 = .slice (some ⟨lg, lo, none⟩) n zc) ∧ (L 5 = true → x 15 = .int .i64 (k : Int)) ∧ (L 6 = true → x 16 = .pointer (some ⟨lg, lo + k, none⟩)) ∧ (L 7 = true → x 17 = .int .i64 xr) ∧ (L 8 = true → x 18 = .bool false) ∧ (L 9 = true → x 19 = .bool false) ∧ (L 10 = true → x 20 = .bool false) ∧ (L 11 = true → x 21 = .slice (some ⟨lg, lo, none⟩) n zc) ∧ (L 12 = true → x 22 = .int .i64 (k : Int)) ∧ (L 13 = true → x 23 = .pointer (some ⟨lg, lo + k, none⟩)) ∧ (L 14 = true → x 24 = .int .i64 xr) ∧ (L 15 = true → x 25 = .slice (some ⟨lg, lo, none⟩) n zc) ∧ (L 16 = true → x 26 = .int .i64 (n : Int)) ∧ (L 17 = true → x 27 = .int .i64 (y : Int)) ∧ (L 18 = true → x 28 = .bool true) ∧ (L 19 = true → x 29 = .bool true)) (by kernel_rfl) (by kernel_rfl) (by kernel_rfl) ?_ ((Go.RE.Each.cons ?_ (Go.RE.Each.cons ?_ (Go.RE.Each.cons ?_ (Go.RE.Each.cons ?_ (Go.RE.Each.cons ?_ (Go.RE.Each.cons ?_ (Go.RE.Each.cons ?_ (Go.RE.Each.cons ?_ (Go.RE.Each.cons ?_ (Go.RE.Each.cons ?_ (Go.RE.Each.cons ?_ (Go.RE.Each.cons ?_ (Go.RE.Each.cons ?_ (Go.RE.Each.cons ?_ (Go.RE.Each.cons ?_ (Go.RE.Each.cons ?_ (Go.RE.Each.cons ?_ (Go.RE.Each.cons ?_ (Go.RE.Each.cons ?_ (Go.RE.Each.cons ?_ Go.RE.Each.nil))))))))))))))))))))) ?_
      ·exact fun x => ⟨bl_dr (Below.refl _ _), nofun, nofun, nofun, nofun, nofun, nofun, nofun, nofun, nofun, nofun, nofun, nofun, nofun, nofun, nofun, nofun, nofun, nofun, nofun, nofun⟩
      ·intro L x a wR K hL hd hf hx hΦ hK
       obtain ⟨hI, f0, f1, f2, f3, f4, f5, f6, f7, f8, f9, f10, f11, f12, f13, f14, f15, f16, f17, f18, f19⟩ := hΦ
       refine ⟨fun _ => ?_, fun h => absurd h (by rw [Go.RE.wanted_none rfl]; decide)⟩
       have e0 : a.tmps[0]? = some (.slice (some ⟨lg, lo, none⟩) n zc) := hf 0 (of_decide_eq_true (by kernel_rfl))
       clear hf hx hd
       go_simp
       refine hK _ _ ?_
       exact ⟨hI, fun _ => rfl, f1, f2, f3, f4, f5, f6, f7, f8, f9, f10, f11, f12, f13, f14, f15, f16, f17, f18, f19⟩
      ·intro L x a wR K hL hd hf hx hΦ hK
       obtain ⟨hI, f0, f1, f2, f3, f4, f5, f6, f7, f8, f9, f10, f11, f12, f13, f14, f15, f16, f17, f18, f19⟩ := hΦ
       refine ⟨fun _ => ?_, fun h => absurd h (by rw [Go.RE.wanted_none rfl]; decide)⟩
       have d0 := f0 (hd 0 (by kernel_rfl))
       have e10 : a.tmps[10]? = some (x 10) := hx 0 _ 10 rfl rfl (hd 0 (by kernel_rfl))
       rw [d0] at e10
       clear hf hx hd
       go_simp
       refine hK _ _ ?_
       exact ⟨hI, f0, fun _ => rfl, f2, f3, f4, f5, f6, f7, f8, f9, f10, f11, f12, f13, f14, f15, f16, f17, f18, f19⟩
      ·intro L x a wR K hL hd hf hx hΦ hK
       obtain ⟨hI, f0, f1, f2, f3, f4, f5, f6, f7, f8, f9, f10, f11, f12, f13, f14, f15, f16, f17, f18, f19⟩ := hΦ
       refine ⟨fun _ => ?_, fun h => absurd h (by rw [Go.RE.wanted_none rfl]; decide)⟩
       have d1 := f1 (hd 1 (by kernel_rfl))
       have e11 : a.tmps[11]? = some (x 11) := hx 1 _ 11 rfl rfl (hd 1 (by kernel_rfl))
       rw [d1] at e11
       have l4 := H4.out
       clear hf hx hd
       go_simp
       refine hK _ _ ?_
       exact ⟨hI, f0, f1, fun _ => rfl, f3, f4, f5, f6, f7, f8, f9, f10, f11, f12, f13, f14, f15, f16, f17, f18, f19⟩
      ·intro L x a wR K hL hd hf hx hΦ hK
       obtain ⟨hI, f0, f1, f2, f3, f4, f5, f6, f7, f8, f9, f10, f11, f12, f13, f14, f15, f16, f17, f18, f19⟩ := hΦ
       refine ⟨fun _ => ?_, fun h => absurd h (by rw [Go.RE.wanted_none rfl]; decide)⟩
       have d2 := f2 (hd 2 (by kernel_rfl))
       have e12 : a.tmps[12]? = some (x 12) := hx 2 _ 12 rfl rfl (hd 2 (by kernel_rfl))
       rw [d2] at e12
       clear hf hx hd
       go_simp
       refine hK _ _ ?_
       exact ⟨hI, f0, f1, f2, fun _ => rfl, f4, f5, f6, f7, f8, f9, f10, f11, f12, f13, f14, f15, f16, f17, f18, f19⟩
      ·intro L x a wR K hL hd hf hx hΦ hK
       obtain ⟨hI, f0, f1, f2, f3, f4, f5, f6, f7, f8, f9, f10, f11, f12, f13, f14, f15, f16, f17, f18, f19⟩ := hΦ
       have g3 := f3 (hd 3 (by kernel_rfl))
       have ge : a.tmps[13]? = some (x 13) := hx 3 _ 13 rfl rfl (hd 3 (by kernel_rfl))
       rw [g3] at ge
       refine ⟨fun _ => ?_, fun h => absurd h (by rw [Go.RE.wanted_of rfl (Go.RE.yielded_of rfl rfl ge)]; decide)⟩
       have e0 : a.tmps[0]? = some (.slice (some ⟨lg, lo, none⟩) n zc) := hf 0 (of_decide_eq_true (by kernel_rfl))
       clear hf hx hd
       go_simp
       refine hK _ _ ?_
       exact ⟨hI, f0, f1, f2, f3, fun _ => rfl, f5, f6, f7, f8, f9, f10, f11, f12, f13, f14, f15, f16, f17, f18, f19⟩
      ·intro L x a wR K hL hd hf hx hΦ hK
       obtain ⟨hI, f0, f1, f2, f3, f4, f5, f6, f7, f8, f9, f10, f11, f12, f13, f14, f15, f16, f17, f18, f19⟩ := hΦ
       have g3 := f3 (hd 3 (by kernel_rfl))
       have ge : a.tmps[13]? = some (x 13) := hx 3 _ 13 rfl rfl (hd 3 (by kernel_rfl))
       rw [g3] at ge
       refine ⟨fun _ => ?_, fun h => absurd h (by rw [Go.RE.wanted_of rfl (Go.RE.yielded_of rfl rfl ge)]; decide)⟩
       have e3 : a.tmps[3]? = some (.int .i64 (k : Int)) := hf 3 (of_decide_eq_true (by kernel_rfl))
       clear hf hx hd
       go_simp
       refine hK _ _ ?_
       exact ⟨hI, f0, f1, f2, f3, f4, fun _ => rfl, f6, f7, f8, f9, f10, f11, f12, f13, f14, f15, f16, f17, f18, f19⟩
      ·intro L x a wR K hL hd hf hx hΦ hK
       obtain ⟨hI, f0, f1, f2, f3, f4, f5, f6, f7, f8, f9, f10, f11, f12, f13, f14, f15, f16, f17, f18, f19⟩ := hΦ
       have g3 := f3 (hd 3 (by kernel_rfl))
       have ge : a.tmps[13]? = some (x 13) := hx 3 _ 13 rfl rfl (hd 3 (by kernel_rfl))
       rw [g3] at ge
       refine ⟨fun _ => ?_, fun h => absurd h (by rw [Go.RE.wanted_of rfl (Go.RE.yielded_of rfl rfl ge)]; decide)⟩
       have d4 := f4 (hd 4 (by kernel_rfl))
       have e14 : a.tmps[14]? = some (x 14) := hx 4 _ 14 rfl rfl (hd 4 (by kernel_rfl))
       rw [d4] at e14
       have d5 := f5 (hd 5 (by kernel_rfl))
       have e15 : a.tmps[15]? = some (x 15) := hx 5 _ 15 rfl rfl (hd 5 (by kernel_rfl))
       rw [d5] at e15
       have l1 := HK.out.1
       have l2 := HK.out.2
       clear hf hx hd
       go_simp
       refine hK _ _ ?_
       exact ⟨hI, f0, f1, f2, f3, f4, f5, fun _ => rfl, f7, f8, f9, f10, f11, f12, f13, f14, f15, f16, f17, f18, f19⟩
      ·intro L x a wR K hL hd hf hx hΦ hK
       obtain ⟨hI, f0, f1, f2, f3, f4, f5, f6, f7, f8, f9, f10, f11, f12, f13, f14, f15, f16, f17, f18, f19⟩ := hΦ
       have g3 := f3 (hd 3 (by kernel_rfl))
       have ge : a.tmps[13]? = some (x 13) := hx 3 _ 13 rfl rfl (hd 3 (by kernel_rfl))
       rw [g3] at ge
       refine ⟨fun _ => ?_, fun h => absurd h (by rw [Go.RE.wanted_of rfl (Go.RE.yielded_of rfl rfl ge)]; decide)⟩
       have d6 := f6 (hd 6 (by kernel_rfl))
       have e16 : a.tmps[16]? = some (x 16) := hx 6 _ 16 rfl rfl (hd 6 (by kernel_rfl))
       rw [d6] at e16
       have c := HC.out _ hI
       clear hf hx hd
       go_simp
       refine hK _ _ ?_
       exact ⟨hI, f0, f1, f2, f3, f4, f5, f6, fun _ => rfl, f8, f9, f10, f11, f12, f13, f14, f15, f16, f17, f18, f19⟩
      ·intro L x a wR K hL hd hf hx hΦ hK
       obtain ⟨hI, f0, f1, f2, f3, f4, f5, f6, f7, f8, f9, f10, f11, f12, f13, f14, f15, f16, f17, f18, f19⟩ := hΦ
       have g3 := f3 (hd 3 (by kernel_rfl))
       have ge : a.tmps[13]? = some (x 13) := hx 3 _ 13 rfl rfl (hd 3 (by kernel_rfl))
       rw [g3] at ge
       refine ⟨fun _ => ?_, fun h => absurd h (by rw [Go.RE.wanted_of rfl (Go.RE.yielded_of rfl rfl ge)]; decide)⟩
       have d7 := f7 (hd 7 (by kernel_rfl))
       have e17 : a.tmps[17]? = some (x 17) := hx 7 _ 17 rfl rfl (hd 7 (by kernel_rfl))
       rw [d7] at e17
       have l5 := H5.out
       clear hf hx hd
       go_simp
       refine hK _ _ ?_
       exact ⟨hI, f0, f1, f2, f3, f4, f5, f6, f7, fun _ => rfl, f9, f10, f11, f12, f13, f14, f15, f16, f17, f18, f19⟩
      ·intro L x a wR K hL hd hf hx hΦ hK
       obtain ⟨hI, f0, f1, f2, f3, f4, f5, f6, f7, f8, f9, f10, f11, f12, f13, f14, f15, f16, f17, f18, f19⟩ := hΦ
       refine ⟨fun _ => ?_, fun h => absurd h (by rw [Go.RE.wanted_none rfl]; decide)⟩
       have d3 := f3 (hd 3 (by kernel_rfl))
       have e13 : a.tmps[13]? = some (x 13) := hx 3 _ 13 rfl rfl (hd 3 (by kernel_rfl))
       rw [d3] at e13
       have d8 := f8 (hd 8 (by kernel_rfl))
       have e18 : a.tmps[18]? = some (x 18) := hx 8 _ 18 rfl rfl (hd 8 (by kernel_rfl))
       rw [d8] at e18
       clear hf hx hd
       go_simp
       refine hK _ _ ?_
       exact ⟨hI, f0, f1, f2, f3, f4, f5, f6, f7, f8, fun _ => rfl, f10, f11, f12, f13, f14, f15, f16, f17, f18, f19⟩
      ·intro L x a wR K hL hd hf hx hΦ hK
       obtain ⟨hI, f0, f1, f2, f3, f4, f5, f6, f7, f8, f9, f10, f11, f12, f13, f14, f15, f16, f17, f18, f19⟩ := hΦ
       refine ⟨fun _ => ?_, fun h => absurd h (by rw [Go.RE.wanted_none rfl]; decide)⟩
       have d9 := f9 (hd 9 (by kernel_rfl))
       have e19 : a.tmps[19]? = some (x 19) := hx 9 _ 19 rfl rfl (hd 9 (by kernel_rfl))
       rw [d9] at e19
       clear hf hx hd
       go_simp
       refine hK _ _ ?_
       exact ⟨hI, f0, f1, f2, f3, f4, f5, f6, f7, f8, f9, fun _ => rfl, f11, f12, f13, f14, f15, f16, f17, f18, f19⟩
      ·intro L x a wR K hL hd hf hx hΦ hK
       obtain ⟨hI, f0, f1, f2, f3, f4, f5, f6, f7, f8, f9, f10, f11, f12, f13, f14, f15, f16, f17, f18, f19⟩ := hΦ
       have g10 := f10 (hd 10 (by kernel_rfl))
       have ge : a.tmps[20]? = some (x 20) := hx 10 _ 20 rfl rfl (hd 10 (by kernel_rfl))
       rw [g10] at ge
       refine ⟨fun _ => ?_, fun h => absurd h (by rw [Go.RE.wanted_of rfl (Go.RE.yielded_of rfl rfl ge)]; decide)⟩
       have e0 : a.tmps[0]? = some (.slice (some ⟨lg, lo, none⟩) n zc) := hf 0 (of_decide_eq_true (by kernel_rfl))
       clear hf hx hd
       go_simp
       refine hK _ _ ?_
       exact ⟨hI, f0, f1, f2, f3, f4, f5, f6, f7, f8, f9, f10, fun _ => rfl, f12, f13, f14, f15, f16, f17, f18, f19⟩
      ·intro L x a wR K hL hd hf hx hΦ hK
       obtain ⟨hI, f0, f1, f2, f3, f4, f5, f6, f7, f8, f9, f10, f11, f12, f13, f14, f15, f16, f17, f18, f19⟩ := hΦ
       have g10 := f10 (hd 10 (by kernel_rfl))
       have ge : a.tmps[20]? = some (x 20) := hx 10 _ 20 rfl rfl (hd 10 (by kernel_rfl))
       rw [g10] at ge
       refine ⟨fun _ => ?_, fun h => absurd h (by rw [Go.RE.wanted_of rfl (Go.RE.yielded_of rfl rfl ge)]; decide)⟩
       have e3 : a.tmps[3]? = some (.int .i64 (k : Int)) := hf 3 (of_decide_eq_true (by kernel_rfl))
       clear hf hx hd
       go_simp
       refine hK _ _ ?_
       exact ⟨hI, f0, f1, f2, f3, f4, f5, f6, f7, f8, f9, f10, f11, fun _ => rfl, f13, f14, f15, f16, f17, f18, f19⟩
      ·intro L x a wR K hL hd hf hx hΦ hK
       obtain ⟨hI, f0, f1, f2, f3, f4, f5, f6, f7, f8, f9, f10, f11, f12, f13, f14, f15, f16, f17, f18, f19⟩ := hΦ
       have g10 := f10 (hd 10 (by kernel_rfl))
       have ge : a.tmps[20]? = some (x 20) := hx 10 _ 20 rfl rfl (hd 10 (by kernel_rfl))
       rw [g10] at ge
       refine ⟨fun _ => ?_, fun h => absurd h (by rw [Go.RE.wanted_of rfl (Go.RE.yielded_of rfl rfl ge)]; decide)⟩
       have d11 := f11 (hd 11 (by kernel_rfl))
       have e21 : a.tmps[21]? = some (x 21) := hx 11 _ 21 rfl rfl (hd 11 (by kernel_rfl))
       rw [d11] at e21
       have d12 := f12 (hd 12 (by kernel_rfl))
       have e22 : a.tmps[22]? = some (x 22) := hx 12 _ 22 rfl rfl (hd 12 (by kernel_rfl))
       rw [d12] at e22
       have l1 := HK.out.1
       have l2 := HK.out.2
       clear hf hx hd
       go_simp
       refine hK _ _ ?_
       exact ⟨hI, f0, f1, f2, f3, f4, f5, f6, f7, f8, f9, f10, f11, f12, fun _ => rfl, f14, f15, f16, f17, f18, f19⟩
      ·intro L x a wR K hL hd hf hx hΦ hK
       obtain ⟨hI, f0, f1, f2, f3, f4, f5, f6, f7, f8, f9, f10, f11, f12, f13, f14, f15, f16, f17, f18, f19⟩ := hΦ
       have g10 := f10 (hd 10 (by kernel_rfl))
       have ge : a.tmps[20]? = some (x 20) := hx 10 _ 20 rfl rfl (hd 10 (by kernel_rfl))
       rw [g10] at ge
       refine ⟨fun _ => ?_, fun h => absurd h (by rw [Go.RE.wanted_of rfl (Go.RE.yielded_of rfl rfl ge)]; decide)⟩
       have d13 := f13 (hd 13 (by kernel_rfl))
       have e23 : a.tmps[23]? = some (x 23) := hx 13 _ 23 rfl rfl (hd 13 (by kernel_rfl))
       rw [d13] at e23
       have c := HC.out _ hI
       clear hf hx hd
       go_simp
       refine hK _ _ ?_
       exact ⟨hI, f0, f1, f2, f3, f4, f5, f6, f7, f8, f9, f10, f11, f12, f13, fun _ => rfl, f15, f16, f17, f18, f19⟩
      ·intro L x a wR K hL hd hf hx hΦ hK
       obtain ⟨hI, f0, f1, f2, f3, f4, f5, f6, f7, f8, f9, f10, f11, f12, f13, f14, f15, f16, f17, f18, f19⟩ := hΦ
       have g10 := f10 (hd 10 (by kernel_rfl))
       have ge : a.tmps[20]? = some (x 20) := hx 10 _ 20 rfl rfl (hd 10 (by kernel_rfl))
       rw [g10] at ge
       refine ⟨fun _ => ?_, fun h => absurd h (by rw [Go.RE.wanted_of rfl (Go.RE.yielded_of rfl rfl ge)]; decide)⟩
       have e0 : a.tmps[0]? = some (.slice (some ⟨lg, lo, none⟩) n zc) := hf 0 (of_decide_eq_true (by kernel_rfl))
       clear hf hx hd
       go_simp
       refine hK _ _ ?_
       exact ⟨hI, f0, f1, f2, f3, f4, f5, f6, f7, f8, f9, f10, f11, f12, f13, f14, fun _ => rfl, f16, f17, f18, f19⟩
      ·intro L x a wR K hL hd hf hx hΦ hK
       obtain ⟨hI, f0, f1, f2, f3, f4, f5, f6, f7, f8, f9, f10, f11, f12, f13, f14, f15, f16, f17, f18, f19⟩ := hΦ
       have g10 := f10 (hd 10 (by kernel_rfl))
       have ge : a.tmps[20]? = some (x 20) := hx 10 _ 20 rfl rfl (hd 10 (by kernel_rfl))
       rw [g10] at ge
       refine ⟨fun _ => ?_, fun h => absurd h (by rw [Go.RE.wanted_of rfl (Go.RE.yielded_of rfl rfl ge)]; decide)⟩
       have d15 := f15 (hd 15 (by kernel_rfl))
       have e25 : a.tmps[25]? = some (x 25) := hx 15 _ 25 rfl rfl (hd 15 (by kernel_rfl))
       rw [d15] at e25
       clear hf hx hd
       go_simp
       refine hK _ _ ?_
       exact ⟨hI, f0, f1, f2, f3, f4, f5, f6, f7, f8, f9, f10, f11, f12, f13, f14, f15, fun _ => rfl, f17, f18, f19⟩
      ·intro L x a wR K hL hd hf hx hΦ hK
       obtain ⟨hI, f0, f1, f2, f3, f4, f5, f6, f7, f8, f9, f10, f11, f12, f13, f14, f15, f16, f17, f18, f19⟩ := hΦ
       have g10 := f10 (hd 10 (by kernel_rfl))
       have ge : a.tmps[20]? = some (x 20) := hx 10 _ 20 rfl rfl (hd 10 (by kernel_rfl))
       rw [g10] at ge
       refine ⟨fun _ => ?_, fun h => absurd h (by rw [Go.RE.wanted_of rfl (Go.RE.yielded_of rfl rfl ge)]; decide)⟩
       have d16 := f16 (hd 16 (by kernel_rfl))
       have e26 : a.tmps[26]? = some (x 26) := hx 16 _ 26 rfl rfl (hd 16 (by kernel_rfl))
       rw [d16] at e26
       have fz1 := HF1.out
       have hmin := HMN.out
       have q0 := HQN.out
       clear hf hx hd
       go_simp
       refine hK _ _ ?_
       exact ⟨hI, f0, f1, f2, f3, f4, f5, f6, f7, f8, f9, f10, f11, f12, f13, f14, f15, f16, fun _ => rfl, f18, f19⟩
      ·intro L x a wR K hL hd hf hx hΦ hK
       obtain ⟨hI, f0, f1, f2, f3, f4, f5, f6, f7, f8, f9, f10, f11, f12, f13, f14, f15, f16, f17, f18, f19⟩ := hΦ
       have g10 := f10 (hd 10 (by kernel_rfl))
       have ge : a.tmps[20]? = some (x 20) := hx 10 _ 20 rfl rfl (hd 10 (by kernel_rfl))
       rw [g10] at ge
       refine ⟨fun _ => ?_, fun h => absurd h (by rw [Go.RE.wanted_of rfl (Go.RE.yielded_of rfl rfl ge)]; decide)⟩
       have d14 := f14 (hd 14 (by kernel_rfl))
       have e24 : a.tmps[24]? = some (x 24) := hx 14 _ 24 rfl rfl (hd 14 (by kernel_rfl))
       rw [d14] at e24
       have d17 := f17 (hd 17 (by kernel_rfl))
       have e27 : a.tmps[27]? = some (x 27) := hx 17 _ 27 rfl rfl (hd 17 (by kernel_rfl))
       rw [d17] at e27
       have l6 := H6.out
       clear hf hx hd
       go_simp
       refine hK _ _ ?_
       exact ⟨hI, f0, f1, f2, f3, f4, f5, f6, f7, f8, f9, f10, f11, f12, f13, f14, f15, f16, f17, fun _ => rfl, f19⟩
      ·intro L x a wR K hL hd hf hx hΦ hK
       obtain ⟨hI, f0, f1, f2, f3, f4, f5, f6, f7, f8, f9, f10, f11, f12, f13, f14, f15, f16, f17, f18, f19⟩ := hΦ
       refine ⟨fun _ => ?_, fun h => absurd h (by rw [Go.RE.wanted_none rfl]; decide)⟩
       have d10 := f10 (hd 10 (by kernel_rfl))
       have e20 : a.tmps[20]? = some (x 20) := hx 10 _ 20 rfl rfl (hd 10 (by kernel_rfl))
       rw [d10] at e20
       have d18 := f18 (hd 18 (by kernel_rfl))
       have e28 : a.tmps[28]? = some (x 28) := hx 18 _ 28 rfl rfl (hd 18 (by kernel_rfl))
       rw [d18] at e28
       clear hf hx hd
       go_simp
       refine hK _ _ ?_
       exact ⟨hI, f0, f1, f2, f3, f4, f5, f6, f7, f8, f9, f10, f11, f12, f13, f14, f15, f16, f17, f18, fun _ => rfl⟩
      ·rintro x W ⟨hI, f0, f1, f2, f3, f4, f5, f6, f7, f8, f9, f10, f11, f12, f13, f14, f15, f16, f17, f18, f19⟩
       simp only [Exit.then]
       go_step
       go_meet
       exact ⟨by rw [HE.out]; exact f19 rfl, hI⟩
     ·have HE : Hid (bb = false) := Lib.hid (by rw [HBB.out, hy2, decide_eq_false h6, decide_eq_false h5, decide_eq_false h4]; rfl)
      have H6 := Lib.hid h6
      clear h4 h5 h6 fz1 hy hy2
      refine Go.RE.wp_region_eachg [10, 11, 12, 13, 14, 15, 16, 17, 18, 19, 20, 21, 22, 23, 24, 25, 26, 27, 28, 29] (fun L x W => (Below wr.heap.size wr W) ∧ (L 0 = true → x 10 = .slice (some ⟨lg, lo, none⟩) n zc) ∧ (L 1 = true → x 11 = .int .i64 (n : Int)) ∧ (L 2 = true → x 12 = .bool false) ∧ (L 3 = true → x 13 = .bool false) ∧ (L 4 = true → x 14 = .slice (some ⟨lg, lo, none⟩) n zc) ∧ (L 5 = true → x 15 = .int .i64 (k : Int)) ∧ (L 6 = true → x 16 = .pointer (some ⟨lg, lo + k, none⟩)) ∧ (L 7 = true → x 17 = .int .i64 xr) ∧ (L 8 = true → x 18 = .bool false) ∧ (L 9 = true → x 19 = .bool false) ∧ (L 10 = true → x 20 = .bool false) ∧ (L 11 = true → x 21 = .slice (some ⟨lg, lo, none⟩) n zc) ∧ (L 12 = true → x 22 = .int .i64 (k : Int)) ∧ (L 13 = true → x 23 = .pointer (some ⟨lg, lo + k, none⟩)) ∧ (L 14 = true → x 24 = .int .i64 xr) ∧ (L 15 = true → x 25 = .slice (some ⟨lg, lo, none⟩) n zc) ∧ (L 16 = true → x 26 = .int .i64 (n : Int)) ∧ (L 17 = true → x 27 = .int .i64 (y : Int)) ∧ (L 18 = true → x 28 = .bool false) ∧ (L 19 = true → x 29 = .bool false)) (by kernel_rfl) (by kernel_rfl) (by kernel_rfl) ?_ ((Go.RE.Each.cons ?_ (Go.RE.Each.cons ?_ (Go.RE.Each.cons ?_ (Go.RE.Each.cons ?_ (Go.RE.Each.cons ?_ (Go.RE.Each.cons ?_ (Go.RE.Each.cons ?_ (Go.RE.Each.cons ?_ (Go.RE.Each.cons ?_ (Go.RE.Each.cons ?_ (Go.RE.Each.cons ?_ (Go.RE.Each.cons ?_ (Go.RE.Each.cons ?_ (Go.RE.Each.cons ?_ (Go.RE.Each.cons ?_ (Go.RE.Each.cons ?_ (Go.RE.Each.cons ?_ (Go.RE.Each.cons ?_ (Go.RE.Each.cons ?_ (Go.RE.Each.cons ?_ Go.RE.Each.nil))))))))))))))))))))) ?_
      ·exact fun x => ⟨bl_dr (Below.refl _ _), nofun, nofun, nofun, nofun, nofun, nofun, nofun, nofun, nofun, nofun, nofun, nofun, nofun, nofun, nofun, nofun, nofun, nofun, nofun, nofun⟩
      ·intro L x a wR K hL hd hf hx hΦ hK
       obtain ⟨hI, f0, f1, f2, f3, f4, f5, f6, f7, f8, f9, f10, f11, f12, f13, f14, f15, f16, f17, f18, f19⟩ := hΦ
       refine ⟨fun _ => ?_, fun h => absurd h (by rw [Go.RE.wanted_none rfl]; decide)⟩
       have e0 : a.tmps[0]? = some (.slice (some ⟨lg, lo, none⟩) n zc) := hf 0 (of_decide_eq_true (by kernel_rfl))
       clear hf hx hd
       go_simp
       refine hK _ _ ?_
       exact ⟨hI, fun _ => rfl, f1, f2, f3, f4, f5, f6, f7, f8, f9, f10, f11, f12, f13, f14, f15, f16, f17, f18, f19⟩
      ·intro L x a wR K hL hd hf hx hΦ hK
       obtain ⟨hI, f0, f1, f2, f3, f4, f5, f6, f7, f8, f9, f10, f11, f12, f13, f14, f15, f16, f17, f18, f19⟩ := hΦ
       refine ⟨fun _ => ?_, fun h => absurd h (by rw [Go.RE.wanted_none rfl]; decide)⟩
       have d0 := f0 (hd 0 (by kernel_rfl))
       have e10 : a.tmps[10]? = some (x 10) := hx 0 _ 10 rfl rfl (hd 0 (by kernel_rfl))
       rw [d0] at e10
       clear hf hx hd
       go_simp
       refine hK _ _ ?_
       exact ⟨hI, f0, fun _ => rfl, f2, f3, f4, f5, f6, f7, f8, f9, f10, f11, f12, f13, f14, f15, f16, f17, f18, f19⟩
      ·intro L x a wR K hL hd hf hx hΦ hK
       obtain ⟨hI, f0, f1, f2, f3, f4, f5, f6, f7, f8, f9, f10, f11, f12, f13, f14, f15, f16, f17, f18, f19⟩ := hΦ
       refine ⟨fun _ => ?_, fun h => absurd h (by rw [Go.RE.wanted_none rfl]; decide)⟩
       have d1 := f1 (hd 1 (by kernel_rfl))
       have e11 : a.tmps[11]? = some (x 11) := hx 1 _ 11 rfl rfl (hd 1 (by kernel_rfl))
       rw [d1] at e11
       have l4 := H4.out
       clear hf hx hd
       go_simp
       refine hK _ _ ?_
       exact ⟨hI, f0, f1, fun _ => rfl, f3, f4, f5, f6, f7, f8, f9, f10, f11, f12, f13, f14, f15, f16, f17, f18, f19⟩
      ·intro L x a wR K hL hd hf hx hΦ hK
       obtain ⟨hI, f0, f1, f2, f3, f4, f5, f6, f7, f8, f9, f10, f11, f12, f13, f14, f15, f16, f17, f18, f19⟩ := hΦ
       refine ⟨fun _ => ?_, fun h => absurd h (by rw [Go.RE.wanted_none rfl]; decide)⟩
       have d2 := f2 (hd 2 (by kernel_rfl))
       have e12 : a.tmps[12]? = some (x 12) := hx 2 _ 12 rfl rfl (hd 2 (by kernel_rfl))
       rw [d2] at e12
       clear hf hx hd
       go_simp
       refine hK _ _ ?_
       exact ⟨hI, f0, f1, f2, fun _ => rfl, f4, f5, f6, f7, f8, f9, f10, f11, f12, f13, f14, f15, f16, f17, f18, f19⟩
      ·intro L x a wR K hL hd hf hx hΦ hK
       obtain ⟨hI, f0, f1, f2, f3, f4, f5, f6, f7, f8, f9, f10, f11, f12, f13, f14, f15, f16, f17, f18, f19⟩ := hΦ
       have g3 := f3 (hd 3 (by kernel_rfl))
       have ge : a.tmps[13]? = some (x 13) := hx 3 _ 13 rfl rfl (hd 3 (by kernel_rfl))
       rw [g3] at ge
       refine ⟨fun _ => ?_, fun h => absurd h (by rw [Go.RE.wanted_of rfl (Go.RE.yielded_of rfl rfl ge)]; decide)⟩
       have e0 : a.tmps[0]? = some (.slice (some ⟨lg, lo, none⟩) n zc) := hf 0 (of_decide_eq_true (by kernel_rfl))
       clear hf hx hd
       go_simp
       refine hK _ _ ?_
       exact ⟨hI, f0, f1, f2, f3, fun _ => rfl, f5, f6, f7, f8, f9, f10, f11, f12, f13, f14, f15, f16, f17, f18, f19⟩
      ·intro L x a wR K hL hd hf hx hΦ hK
       obtain ⟨hI, f0, f1, f2, f3, f4, f5, f6, f7, f8, f9, f10, f11, f12, f13, f14, f15, f16, f17, f18, f19⟩ := hΦ
       have g3 := f3 (hd 3 (by kernel_rfl))
       have ge : a.tmps[13]? = some (x 13) := hx 3 _ 13 rfl rfl (hd 3 (by kernel_rfl))
       rw [g3] at ge
       refine ⟨fun _ => ?_, fun h => absurd h (by rw [Go.RE.wanted_of rfl (Go.RE.yielded_of rfl rfl ge)]; decide)⟩
       have e3 : a.tmps[3]? = some (.int .i64 (k : Int)) := hf 3 (of_decide_eq_true (by kernel_rfl))
       clear hf hx hd
       go_simp
       refine hK _ _ ?_
       exact ⟨hI, f0, f1, f2, f3, f4, fun _ => rfl, f6, f7, f8, f9, f10, f11, f12, f13, f14, f15, f16, f17, f18, f19⟩
      ·intro L x a wR K hL hd hf hx hΦ hK
       obtain ⟨hI, f0, f1, f2, f3, f4, f5, f6, f7, f8, f9, f10, f11, f12, f13, f14, f15, f16, f17, f18, f19⟩ := hΦ
       have g3 := f3 (hd 3 (by kernel_rfl))
       have ge : a.tmps[13]? = some (x 13) := hx 3 _ 13 rfl rfl (hd 3 (by kernel_rfl))
       rw [g3] at ge
       refine ⟨fun _ => ?_, fun h => absurd h (by rw [Go.RE.wanted_of rfl (Go.RE.yielded_of rfl rfl ge)]; decide)⟩
       have d4 := f4 (hd 4 (by kernel_rfl))
       have e14 : a.tmps[14]? = some (x 14) := hx 4 _ 14 rfl rfl (hd 4 (by kernel_rfl))
       rw [d4] at e14
       have d5 := f5 (hd 5 (by kernel_rfl))
       have e15 : a.tmps[15]? = some (x 15) := hx 5 _ 15 rfl rfl (hd 5 (by kernel_rfl))
       rw [d5] at e15
       have l1 := HK.out.1
       have l2 := HK.out.2
       clear hf hx hd
       go_simp
       refine hK _ _ ?_
       exact ⟨hI, f0, f1, f2, f3, f4, f5, fun _ => rfl, f7, f8, f9, f10, f11, f12, f13, f14, f15, f16, f17, f18, f19⟩
      ·intro L x a wR K hL hd hf hx hΦ hK
       obtain ⟨hI, f0, f1, f2, f3, f4, f5, f6, f7, f8, f9, f10, f11, f12, f13, f14, f15, f16, f17, f18, f19⟩ := hΦ
       have g3 := f3 (hd 3 (by kernel_rfl))
       have ge : a.tmps[13]? = some (x 13) := hx 3 _ 13 rfl rfl (hd 3 (by kernel_rfl))
       rw [g3] at ge
       refine ⟨fun _ => ?_, fun h => absurd h (by rw [Go.RE.wanted_of rfl (Go.RE.yielded_of rfl rfl ge)]; decide)⟩
       have d6 := f6 (hd 6 (by kernel_rfl))
       have e16 : a.tmps[16]? = some (x 16) := hx 6 _ 16 rfl rfl (hd 6 (by kernel_rfl))
       rw [d6] at e16
       have c := HC.out _ hI
       clear hf hx hd
       go_simp
       refine hK _ _ ?_
       exact ⟨hI, f0, f1, f2, f3, f4, f5, f6, fun _ => rfl, f8, f9, f10, f11, f12, f13, f14, f15, f16, f17, f18, f19⟩
      ·intro L x a wR K hL hd hf hx hΦ hK
       obtain ⟨hI, f0, f1, f2, f3, f4, f5, f6, f7, f8, f9, f10, f11, f12, f13, f14, f15, f16, f17, f18, f19⟩ := hΦ
       have g3 := f3 (hd 3 (by kernel_rfl))
       have ge : a.tmps[13]? = some (x 13) := hx 3 _ 13 rfl rfl (hd 3 (by kernel_rfl))
       rw [g3] at ge
       refine ⟨fun _ => ?_, fun h => absurd h (by rw [Go.RE.wanted_of rfl (Go.RE.yielded_of rfl rfl ge)]; decide)⟩
       have d7 := f7 (hd 7 (by kernel_rfl))
       have e17 : a.tmps[17]? = some (x 17) := hx 7 _ 17 rfl rfl (hd 7 (by kernel_rfl))
       rw [d7] at e17
       have l5 := H5.out
       clear hf hx hd
       go_simp
       refine hK _ _ ?_
       exact ⟨hI, f0, f1, f2, f3, f4, f5, f6, f7, fun _ => rfl, f9, f10, f11, f12, f13, f14, f15, f16, f17, f18, f19⟩
      ·intro L x a wR K hL hd hf hx hΦ hK
       obtain ⟨hI, f0, f1, f2, f3, f4, f5, f6, f7, f8, f9, f10, f11, f12, f13, f14, f15, f16, f17, f18, f19⟩ := hΦ
       refine ⟨fun _ => ?_, fun h => absurd h (by rw [Go.RE.wanted_none rfl]; decide)⟩
       have d3 := f3 (hd 3 (by kernel_rfl))
       have e13 : a.tmps[13]? = some (x 13) := hx 3 _ 13 rfl rfl (hd 3 (by kernel_rfl))
       rw [d3] at e13
       have d8 := f8 (hd 8 (by kernel_rfl))
       have e18 : a.tmps[18]? = some (x 18) := hx 8 _ 18 rfl rfl (hd 8 (by kernel_rfl))
       rw [d8] at e18
       clear hf hx hd
       go_simp
       refine hK _ _ ?_
       exact ⟨hI, f0, f1, f2, f3, f4, f5, f6, f7, f8, fun _ => rfl, f10, f11, f12, f13, f14, f15, f16, f17, f18, f19⟩
      ·intro L x a wR K hL hd hf hx hΦ hK
       obtain ⟨hI, f0, f1, f2, f3, f4, f5, f6, f7, f8, f9, f10, f11, f12, f13, f14, f15, f16, f17, f18, f19⟩ := hΦ
       refine ⟨fun _ => ?_, fun h => absurd h (by rw [Go.RE.wanted_none rfl]; decide)⟩
       have d9 := f9 (hd 9 (by kernel_rfl))
       have e19 : a.tmps[19]? = some (x 19) := hx 9 _ 19 rfl rfl (hd 9 (by kernel_rfl))
       rw [d9] at e19
       clear hf hx hd
       go_simp
       refine hK _ _ ?_
       exact ⟨hI, f0, f1, f2, f3, f4, f5, f6, f7, f8, f9, fun _ => rfl, f11, f12, f13, f14, f15, f16, f17, f18, f19⟩
      ·intro L x a wR K hL hd hf hx hΦ hK
       obtain ⟨hI, f0, f1, f2, f3, f4, f5, f6, f7, f8, f9, f10, f11, f12, f13, f14, f15, f16, f17, f18, f19⟩ := hΦ
       have g10 := f10 (hd 10 (by kernel_rfl))
       have ge : a.tmps[20]? = some (x 20) := hx 10 _ 20 rfl rfl (hd 10 (by kernel_rfl))
       rw [g10] at ge
       refine ⟨fun _ => ?_, fun h => absurd h (by rw [Go.RE.wanted_of rfl (Go.RE.yielded_of rfl rfl ge)]; decide)⟩
       have e0 : a.tmps[0]? = some (.slice (some ⟨lg, lo, none⟩) n zc) := hf 0 (of_decide_eq_true (by kernel_rfl))
       clear hf hx hd
       go_simp
       refine hK _ _ ?_
       exact ⟨hI, f0, f1, f2, f3, f4, f5, f6, f7, f8, f9, f10, fun _ => rfl, f12, f13, f14, f15, f16, f17, f18, f19⟩
      ·intro L x a wR K hL hd hf hx hΦ hK
       obtain ⟨hI, f0, f1, f2, f3, f4, f5, f6, f7, f8, f9, f10, f11, f12, f13, f14, f15, f16, f17, f18, f19⟩ := hΦ
       have g10 := f10 (hd 10 (by kernel_rfl))
       have ge : a.tmps[20]? = some (x 20) := hx 10 _ 20 rfl rfl (hd 10 (by kernel_rfl))
       rw [g10] at ge
       refine ⟨fun _ => ?_, fun h => absurd h (by rw [Go.RE.wanted_of rfl (Go.RE.yielded_of rfl rfl ge)]; decide)⟩
       have e3 : a.tmps[3]? = some (.int .i64 (k : Int)) := hf 3 (of_decide_eq_true (by kernel_rfl))
       clear hf hx hd
       go_simp
       refine hK _ _ ?_
       exact ⟨hI, f0, f1, f2, f3, f4, f5, f6, f7, f8, f9, f10, f11, fun _ => rfl, f13, f14, f15, f16, f17, f18, f19⟩
      ·intro L x a wR K hL hd hf hx hΦ hK
       obtain ⟨hI, f0, f1, f2, f3, f4, f5, f6, f7, f8, f9, f10, f11, f12, f13, f14, f15, f16, f17, f18, f19⟩ := hΦ
       have g10 := f10 (hd 10 (by kernel_rfl))
       have ge : a.tmps[20]? = some (x 20) := hx 10 _ 20 rfl rfl (hd 10 (by kernel_rfl))
       rw [g10] at ge
       refine ⟨fun _ => ?_, fun h => absurd h (by rw [Go.RE.wanted_of rfl (Go.RE.yielded_of rfl rfl ge)]; decide)⟩
       have d11 := f11 (hd 11 (by kernel_rfl))
       have e21 : a.tmps[21]? = some (x 21) := hx 11 _ 21 rfl rfl (hd 11 (by kernel_rfl))
       rw [d11] at e21
       have d12 := f12 (hd 12 (by kernel_rfl))
       have e22 : a.tmps[22]? = some (x 22) := hx 12 _ 22 rfl rfl (hd 12 (by kernel_rfl))
       rw [d12] at e22
       have l1 := HK.out.1
       have l2 := HK.out.2
       clear hf hx hd
       go_simp
       refine hK _ _ ?_
       exact ⟨hI, f0, f1, f2, f3, f4, f5, f6, f7, f8, f9, f10, f11, f12, fun _ => rfl, f14, f15, f16, f17, f18, f19⟩
      ·intro L x a wR K hL hd hf hx hΦ hK
       obtain ⟨hI, f0, f1, f2, f3, f4, f5, f6, f7, f8, f9, f10, f11, f12, f13, f14, f15, f16, f17, f18, f19⟩ := hΦ
       have g10 := f10 (hd 10 (by kernel_rfl))
       have ge : a.tmps[20]? = some (x 20) := hx 10 _ 20 rfl rfl (hd 10 (by kernel_rfl))
       rw [g10] at ge
       refine ⟨fun _ => ?_, fun h => absurd h (by rw [Go.RE.wanted_of rfl (Go.RE.yielded_of rfl rfl ge)]; decide)⟩
       have d13 := f13 (hd 13 (by kernel_rfl))
       have e23 : a.tmps[23]? = some (x 23) := hx 13 _ 23 rfl rfl (hd 13 (by kernel_rfl))
       rw [d13] at e23
       have c := HC.out _ hI
       clear hf hx hd
       go_simp
       refine hK _ _ ?_
       exact ⟨hI, f0, f1, f2, f3, f4, f5, f6, f7, f8, f9, f10, f11, f12, f13, fun _ => rfl, f15, f16, f17, f18, f19⟩
      ·intro L x a wR K hL hd hf hx hΦ hK
       obtain ⟨hI, f0, f1, f2, f3, f4, f5, f6, f7, f8, f9, f10, f11, f12, f13, f14, f15, f16, f17, f18, f19⟩ := hΦ
       have g10 := f10 (hd 10 (by kernel_rfl))
       have ge : a.tmps[20]? = some (x 20) := hx 10 _ 20 rfl rfl (hd 10 (by kernel_rfl))
       rw [g10] at ge
       refine ⟨fun _ => ?_, fun h => absurd h (by rw [Go.RE.wanted_of rfl (Go.RE.yielded_of rfl rfl ge)]; decide)⟩
       have e0 : a.tmps[0]? = some (.slice (some ⟨lg, lo, none⟩) n zc) := hf 0 (of_decide_eq_true (by kernel_rfl))
       clear hf hx hd
       go_simp
       refine hK _ _ ?_
       exact ⟨hI, f0, f1, f2, f3, f4, f5, f6, f7, f8, f9, f10, f11, f12, f13, f14, fun _ => rfl, f16, f17, f18, f19⟩
      ·intro L x a wR K hL hd hf hx hΦ hK
       obtain ⟨hI, f0, f1, f2, f3, f4, f5, f6, f7, f8, f9, f10, f11, f12, f13, f14, f15, f16, f17, f18, f19⟩ := hΦ
       have g10 := f10 (hd 10 (by kernel_rfl))
       have ge : a.tmps[20]? = some (x 20) := hx 10 _ 20 rfl rfl (hd 10 (by kernel_rfl))
       rw [g10] at ge
       refine ⟨fun _ => ?_, fun h => absurd h (by rw [Go.RE.wanted_of rfl (Go.RE.yielded_of rfl rfl ge)]; decide)⟩
       have d15 := f15 (hd 15 (by kernel_rfl))
       have e25 : a.tmps[25]? = some (x 25) := hx 15 _ 25 rfl rfl (hd 15 (by kernel_rfl))
       rw [d15] at e25
       clear hf hx hd
       go_simp
       refine hK _ _ ?_
       exact ⟨hI, f0, f1, f2, f3, f4, f5, f6, f7, f8, f9, f10, f11, f12, f13, f14, f15, fun _ => rfl, f17, f18, f19⟩
      ·intro L x a wR K hL hd hf hx hΦ hK
       obtain ⟨hI, f0, f1, f2, f3, f4, f5, f6, f7, f8, f9, f10, f11, f12, f13, f14, f15, f16, f17, f18, f19⟩ := hΦ
       have g10 := f10 (hd 10 (by kernel_rfl))
       have ge : a.tmps[20]? = some (x 20) := hx 10 _ 20 rfl rfl (hd 10 (by kernel_rfl))
       rw [g10] at ge
       refine ⟨fun _ => ?_, fun h => absurd h (by rw [Go.RE.wanted_of rfl (Go.RE.yielded_of rfl rfl ge)]; decide)⟩
       have d16 := f16 (hd 16 (by kernel_rfl))
       have e26 : a.tmps[26]? = some (x 26) := hx 16 _ 26 rfl rfl (hd 16 (by kernel_rfl))
       rw [d16] at e26
       have fz1 := HF1.out
       have hmin := HMN.out
       have q0 := HQN.out
       clear hf hx hd
       go_simp
       refine hK _ _ ?_
       exact ⟨hI, f0, f1, f2, f3, f4, f5, f6, f7, f8, f9, f10, f11, f12, f13, f14, f15, f16, fun _ => rfl, f18, f19⟩
      ·intro L x a wR K hL hd hf hx hΦ hK
       obtain ⟨hI, f0, f1, f2, f3, f4, f5, f6, f7, f8, f9, f10, f11, f12, f13, f14, f15, f16, f17, f18, f19⟩ := hΦ
       have g10 := f10 (hd 10 (by kernel_rfl))
       have ge : a.tmps[20]? = some (x 20) := hx 10 _ 20 rfl rfl (hd 10 (by kernel_rfl))
       rw [g10] at ge
       refine ⟨fun _ => ?_, fun h => absurd h (by rw [Go.RE.wanted_of rfl (Go.RE.yielded_of rfl rfl ge)]; decide)⟩
       have d14 := f14 (hd 14 (by kernel_rfl))
       have e24 : a.tmps[24]? = some (x 24) := hx 14 _ 24 rfl rfl (hd 14 (by kernel_rfl))
       rw [d14] at e24
       have d17 := f17 (hd 17 (by kernel_rfl))
       have e27 : a.tmps[27]? = some (x 27) := hx 17 _ 27 rfl rfl (hd 17 (by kernel_rfl))
       rw [d17] at e27
       have l6 := H6.out
       clear hf hx hd
       go_simp
       refine hK _ _ ?_
       exact ⟨hI, f0, f1, f2, f3, f4, f5, f6, f7, f8, f9, f10, f11, f12, f13, f14, f15, f16, f17, fun _ => rfl, f19⟩
      ·intro L x a wR K hL hd hf hx hΦ hK
       obtain ⟨hI, f0, f1, f2, f3, f4, f5, f6, f7, f8, f9, f10, f11, f12, f13, f14, f15, f16, f17, f18, f19⟩ := hΦ
       refine ⟨fun _ => ?_, fun h => absurd h (by rw [Go.RE.wanted_none rfl]; decide)⟩
       have d10 := f10 (hd 10 (by kernel_rfl))
       have e20 : a.tmps[20]? = some (x 20) := hx 10 _ 20 rfl rfl (hd 10 (by kernel_rfl))
       rw [d10] at e20
       have d18 := f18 (hd 18 (by kernel_rfl))
       have e28 : a.tmps[28]? = some (x 28) := hx 18 _ 28 rfl rfl (hd 18 (by kernel_rfl))
       rw [d18] at e28
       clear hf hx hd
       go_simp
       refine hK _ _ ?_
       exact ⟨hI, f0, f1, f2, f3, f4, f5, f6, f7, f8, f9, f10, f11, f12, f13, f14, f15, f16, f17, f18, fun _ => rfl⟩
      ·rintro x W ⟨hI, f0, f1, f2, f3, f4, f5, f6, f7, f8, f9, f10, f11, f12, f13, f14, f15, f16, f17, f18, f19⟩
       simp only [Exit.then]
       go_step
       go_meet
       exact ⟨by rw [HE.out]; exact f19 rfl, hI⟩
  ·obtain rfl : k = n := by omega
   by_cases h1 : 1 ≤ k
   ·have g1 : (1 : Int) ≤ (k : Int) := by omega
    have HN : Hid (rb = true) := Lib.hid (by
     have h4 : k ≤ 4 := by
      rcases Nat.lt_or_ge 4 k with h | h
      ·have := H40.out h; omega
      ·exact h
     rw [HRB.out, HRK.out h4, decide_eq_true h1, decide_eq_true h4]; rfl)
    go_wp2_with (fail)
    go_ret
    exact ⟨by rw [HN.out]; rfl, HB.out⟩
   ·obtain rfl : k = 0 := by omega
    have HN : Hid (rb = false) := Lib.hid (by rw [HRB.out]; rfl)
    simp only [show ((0 : Nat) : Int) = 0 from rfl]
    go_wp2_with (fail)
    go_ret
    exact ⟨by rw [HN.out]; rfl, HB.out⟩
theorem u8_bits (c : Nat) (h : c < 256) : (bits .and .u8 (c : Int) 1 != 0) = c.testBit 0 ∧ (bits .and .u8 (c : Int) 2 != 0) = c.testBit 1 ∧ (bits .and .u8 (c : Int) 4 != 0) = c.testBit 2 := by
 have key : ∀ c : Fin 256, (bits .and .u8 ((c.val : Nat) : Int) 1 != 0) = c.val.testBit 0 ∧ (bits .and .u8 ((c.val : Nat) : Int) 2 != 0) = c.val.testBit 1 ∧ (bits .and .u8 ((c.val : Nat) : Int) 4 != 0) = c.val.testBit 2 := by decide +kernel
 exact key ⟨c, h⟩
/-- The conditions at a world, another one, and a third one. -/
def G1 (c : Nat) (rel : List Nat) (w : Nat) : Prop := c.testBit 0 = true → (rel.getD w 0).testBit w = true
def G2 (c : Nat) (rel : List Nat) (w u : Nat) : Prop := c.testBit 2 = true → (rel.getD w 0).testBit u = true → (rel.getD u 0).testBit w = true
def G3 (c : Nat) (rel : List Nat) (w u x : Nat) : Prop := c.testBit 1 = true → (rel.getD w 0).testBit u = true → (rel.getD u 0).testBit x = true → (rel.getD w 0).testBit x = true
def Gu (c : Nat) (rel : List Nat) (w u : Nat) : Prop := G2 c rel w u ∧ ∀ x, x < rel.length → G3 c rel w u x
def Gw (c : Nat) (rel : List Nat) (w : Nat) : Prop := G1 c rel w ∧ ∀ u, u < rel.length → Gu c rel w u
theorem fits_g {c : Nat} {rel : List Nat} (hr : FrOk rel) : FitsP c rel ↔ ∀ w, w < rel.length → Gw c rel w := by
 constructor
 ·intro h w hw
  refine ⟨fun hc => (h w hw).1 hc, fun u hu => ⟨fun hc hs => (h u hu).2.2 hc w hs, fun x hx hc h1 h2 => (h w hw).2.1 hc u x h1 h2⟩⟩
 ·intro h w hw
  refine ⟨fun hc => (h w hw).1 hc, fun hc u v h1 h2 => ?_, fun hc u hu => ?_⟩
  ·exact ((h w hw).2 u (hr.see h1).2).2 v (hr.see h2).2 hc h1 h2
  ·exact ((h u (hr.see hu).1).2 w hw).1 hc hu
theorem lack_false {c : Nat} {rel : List Nat} (hr : FrOk rel) (h : ¬ FitsP c rel) : lackAll c rel rel.length = false := by
 rcases e : lackAll c rel rel.length with _ | _
 ·rfl
 ·exact absurd ((lackAll_iff hr).1 e) h
set_option maxRecDepth 100000 in
set_option maxHeartbeats 8000000 in
theorem rfits_call (w : World) (g o n cp : Nat) (rel : List Nat) (hR : IsR w g o rel) (hn : rel.length = n) (hok : FrOk rel) (c : Nat) (hc : c < 256) :
  Calls Tryd.prog 49 #[.slice (some ⟨g, o, none⟩) n cp, .int .u8 (c : Int)] w fun e w' => e = .returned (.bool (lackAll c rel n)) ∧ w' = w := by
 have h4 : n ≤ 4 := by have := hok.len; omega
 have HSE : Hid (∀ i u : Nat, i < n → u < n → Calls Tryd.prog 50 #[.slice (some ⟨g, o, none⟩) n cp, .int .i64 (i : Int), .int .i64 (u : Int)] w fun e w' => e = .returned (.bool ((rel.getD i 0).testBit u)) ∧ w' = w) := Lib.hid fun i u hi hu => sees_call w g o n cp rel hR hn i u hi (by omega)
 obtain ⟨e0, e1, e2⟩ := u8_bits c hc
 have HFI : Hid (FitsP c rel ↔ ∀ w, w < n → Gw c rel w) := Lib.hid (by rw [← hn]; exact fits_g hok)
 have HYE : Hid (FitsP c rel → lackAll c rel n = true) := Lib.hid fun h => by rw [← hn]; exact (lackAll_iff hok).2 h
 have HNO : Hid (¬ FitsP c rel → lackAll c rel n = false) := Lib.hid fun h => by rw [← hn]; exact lack_false hok h
 have HN := Lib.hid hn
 obtain ⟨x0, hx0⟩ : ∃ x, x = c.testBit 0 := ⟨_, rfl⟩
 obtain ⟨x1, hx1⟩ : ∃ x, x = c.testBit 1 := ⟨_, rfl⟩
 obtain ⟨x2, hx2⟩ : ∃ x, x = c.testBit 2 := ⟨_, rfl⟩
 rw [← hx0] at e0
 rw [← hx1] at e1
 rw [← hx2] at e2
 have HX0 := Lib.hid hx0.symm
 have HX1 := Lib.hid hx1.symm
 have HX2 := Lib.hid hx2.symm
 obtain ⟨rb, hrb⟩ : ∃ rb, rb = lackAll c rel n := ⟨_, rfl⟩
 rw [← hrb]
 have HRB := Lib.hid hrb
 clear hR hn hok hx0 hx1 hx2 hrb
 go_enter Tryd.func49, Tryd.ntmps49
 go_wp2_with (fail)
 go_loopw [5] (fun i wr => ∃ k : Nat, k ≤ n ∧ i = .int .i64 k ∧ (∀ w', w' < k → Gw c rel w') ∧ wr = w) (fun i _ => n - (intOf i).toNat)
 case atStart => exact ⟨0, by omega, rfl, fun _ h => by omega, rfl⟩
 case round =>
  obtain ⟨k, hk, rfl, hG, rfl⟩ := hrel
  have HG := Lib.hid hG
  clear hG
  by_cases hkn : (k : Int) < (n : Int)
  ·have b0 : (0 : Int) ≤ (k : Int) := by omega
   have HCA : Hid (∀ i u : Nat, ∃ s, s = (rel.getD i 0).testBit u) := Lib.hid fun i u => ⟨_, rfl⟩
   obtain ⟨s0, hs0⟩ := HCA.out k k
   have HS := HSE.out k k (by omega) (by omega)
   rw [← hs0] at HS
   have HSH := Lib.hid HS
   have HG1 : Hid ((x0 && !s0) = false → G1 c rel k) := Lib.hid fun h hc => by
    rw [HX0.out] at hc
    rw [← hs0]
    subst hc
    cases s0
    ·cases h
    ·rfl
   have HB1 : Hid ((x0 && !s0) = true → rb = false) := Lib.hid fun h => by
    rw [HRB.out]
    refine HNO.out fun hf => ?_
    rw [Bool.and_eq_true, Bool.not_eq_true'] at h
    have := (HFI.out.1 hf k (by omega)).1 (HX0.out.trans h.1)
    rw [← hs0, h.2] at this; cases this
   clear HS hs0
   go_upto_region 4 with (fail)
   go_cut [23] from 14 to 22 (fun v wx => v = .bool (x0 && !s0) ∧ wx = wr)
   case first =>
    rcases x0 with _ | _
    ·go_wp2_with (fail)
     go_meet
     exact ⟨rfl, rfl⟩
    ·go_wp2_with (go_at_call 50; ((with_reducible refine HSH.out.mono ?_); rintro e w1 ⟨rfl, hw1⟩; have hw1 := hw1.symm; subst hw1))
     go_meet
     exact ⟨by rw [Bool.true_and], rfl⟩
   case rest =>
    obtain ⟨rfl, hwc⟩ := hcut
    have hwc := hwc.symm
    subst hwc
    obtain ⟨bad, hbad⟩ : ∃ bad, bad = (x0 && !s0) := ⟨_, rfl⟩
    rw [← hbad] at HG1 HB1 ⊢
    clear hbad HSH
    rcases bad with _ | _
    ·replace HG1 := Lib.hid (HG1.out rfl)
     go_wp2_with (fail)
     go_loopw [6] (fun i wq => ∃ u : Nat, u ≤ n ∧ i = .int .i64 u ∧ (∀ u', u' < u → Gu c rel k u') ∧ wq = wr) (fun i _ => n - (intOf i).toNat)
     case atStart => exact ⟨0, by omega, rfl, fun _ h => by omega, rfl⟩
     case round =>
      obtain ⟨u, hu, rfl, hG, rfl⟩ := hrel
      have HGU := Lib.hid hG
      clear hG
      by_cases hun : (u : Int) < (n : Int)
      ·have b1 : (0 : Int) ≤ (u : Int) := by omega
       obtain ⟨s1, hs1⟩ := HCA.out k u
       obtain ⟨s2, hs2⟩ := HCA.out u k
       have HS1 := HSE.out k u (by omega) (by omega)
       have HS2 := HSE.out u k (by omega) (by omega)
       rw [← hs1] at HS1
       rw [← hs2] at HS2
       have HSA := Lib.hid HS1
       have HSB := Lib.hid HS2
       have HG2 : Hid ((x2 && s1 && !s2) = false → G2 c rel k u) := Lib.hid fun h hc he => by
        rw [HX2.out] at hc
        rw [← hs1] at he
        rw [← hs2]
        subst hc he
        cases s2
        ·cases h
        ·rfl
       have HB2 : Hid ((x2 && s1 && !s2) = true → rb = false) := Lib.hid fun h => by
        rw [HRB.out]
        refine HNO.out fun hf => ?_
        rw [Bool.and_eq_true, Bool.and_eq_true, Bool.not_eq_true'] at h
        have := ((HFI.out.1 hf k (by omega)).2 u (by rw [HN.out]; omega)).1 (HX2.out.trans h.1.1) (by rw [← hs1]; exact h.1.2)
        rw [← hs2, h.2] at this; cases this
       have HSK : Hid (s1 = (rel.getD k 0).testBit u) := Lib.hid hs1
       clear HS1 HS2 hs1 hs2
       go_upto_region 9 with (fail)
       go_cut [45] from 30 to 44 (fun v wx => v = .bool (x2 && s1 && !s2) ∧ wx = wr)
       case first =>
        rcases x2 with _ | _
        ·go_wp2_with (fail)
         go_meet
         exact ⟨rfl, rfl⟩
        ·rcases s1 with _ | _
         ·go_wp2_with (go_at_call 50; ((with_reducible refine HSA.out.mono ?_); rintro e w1 ⟨rfl, hw1⟩; have hw1 := hw1.symm; subst hw1))
          go_meet
          exact ⟨rfl, rfl⟩
         ·go_wp2_with (first
           | (go_at_call 50; ((with_reducible refine HSA.out.mono ?_); rintro e w1 ⟨rfl, hw1⟩; have hw1 := hw1.symm; subst hw1))
           | (go_at_call 50; ((with_reducible refine HSB.out.mono ?_); rintro e w2 ⟨rfl, hw2⟩; have hw2 := hw2.symm; subst hw2)))
          go_meet
          exact ⟨by simp, rfl⟩
       case rest =>
        obtain ⟨rfl, hwc⟩ := hcut
        have hwc := hwc.symm
        subst hwc
        obtain ⟨bad, hbad⟩ : ∃ bad, bad = (x2 && s1 && !s2) := ⟨_, rfl⟩
        rw [← hbad] at HG2 HB2 ⊢
        clear hbad HSB
        rcases bad with _ | _
        ·replace HG2 := Lib.hid (HG2.out rfl)
         go_wp2_with (fail)
         go_loopw [7] (fun i wq => ∃ x : Nat, x ≤ n ∧ i = .int .i64 x ∧ (∀ x', x' < x → G3 c rel k u x') ∧ wq = wr) (fun i _ => n - (intOf i).toNat)
         case atStart => exact ⟨0, by omega, rfl, fun _ h => by omega, rfl⟩
         case round =>
          obtain ⟨x, hx, rfl, hG, rfl⟩ := hrel
          have HGX := Lib.hid hG
          clear hG
          by_cases hxn : (x : Int) < (n : Int)
          ·have b2 : (0 : Int) ≤ (x : Int) := by omega
           obtain ⟨s3, hs3⟩ := HCA.out u x
           obtain ⟨s4, hs4⟩ := HCA.out k x
           have HS3 := HSE.out u x (by omega) (by omega)
           have HS4 := HSE.out k x (by omega) (by omega)
           rw [← hs3] at HS3
           rw [← hs4] at HS4
           have HSC := Lib.hid HS3
           have HSD := Lib.hid HS4
           have HG3 : Hid ((x1 && s1 && s3 && !s4) = false → G3 c rel k u x) := Lib.hid fun h hc he hf => by
            rw [HX1.out] at hc
            rw [← HSK.out] at he
            rw [← hs3] at hf
            rw [← hs4]
            subst hc he hf
            cases s4
            ·cases h
            ·rfl
           have HB3 : Hid ((x1 && s1 && s3 && !s4) = true → rb = false) := Lib.hid fun h => by
            rw [HRB.out]
            refine HNO.out fun hf => ?_
            rw [Bool.and_eq_true, Bool.and_eq_true, Bool.and_eq_true, Bool.not_eq_true'] at h
            have := ((HFI.out.1 hf k (by omega)).2 u (by rw [HN.out]; omega)).2 x (by rw [HN.out]; omega) (HX1.out.trans h.1.1.1) (by rw [← HSK.out]; exact h.1.1.2) (by rw [← hs3]; exact h.1.2)
            rw [← hs4, h.2] at this; cases this
           clear HS3 HS4 hs3 hs4
           go_upto_region 14 with (fail)
           go_cut [73] from 52 to 72 (fun v wx => v = .bool (x1 && s1 && s3 && !s4) ∧ wx = wr)
           case first =>
            rcases x1 with _ | _
            ·go_wp2_with (fail)
             go_meet
             exact ⟨rfl, rfl⟩
            ·rcases s1 with _ | _
             ·go_wp2_with (go_at_call 50; ((with_reducible refine HSA.out.mono ?_); rintro e w1 ⟨rfl, hw1⟩; have hw1 := hw1.symm; subst hw1))
              go_meet
              exact ⟨rfl, rfl⟩
             ·rcases s3 with _ | _
              ·go_wp2_with (first
                | (go_at_call 50; ((with_reducible refine HSA.out.mono ?_); rintro e w1 ⟨rfl, hw1⟩; have hw1 := hw1.symm; subst hw1))
                | (go_at_call 50; ((with_reducible refine HSC.out.mono ?_); rintro e w2 ⟨rfl, hw2⟩; have hw2 := hw2.symm; subst hw2)))
               go_meet
               exact ⟨rfl, rfl⟩
              ·go_wp2_with (first
                | (go_at_call 50; ((with_reducible refine HSA.out.mono ?_); rintro e w1 ⟨rfl, hw1⟩; have hw1 := hw1.symm; subst hw1))
                | (go_at_call 50; ((with_reducible refine HSC.out.mono ?_); rintro e w2 ⟨rfl, hw2⟩; have hw2 := hw2.symm; subst hw2))
                | (go_at_call 50; ((with_reducible refine HSD.out.mono ?_); rintro e w3 ⟨rfl, hw3⟩; have hw3 := hw3.symm; subst hw3)))
               go_meet
               exact ⟨by simp, rfl⟩
           case rest =>
            obtain ⟨rfl, hwc⟩ := hcut
            have hwc := hwc.symm
            subst hwc
            obtain ⟨bad, hbad⟩ : ∃ bad, bad = (x1 && s1 && s3 && !s4) := ⟨_, rfl⟩
            rw [← hbad] at HG3 HB3 ⊢
            clear hbad HSC HSD
            rcases bad with _ | _
            ·replace HG3 := Lib.hid (HG3.out rfl)
             go_wp2_with (fail)
             go_roundw
             case rel => exact ⟨x + 1, by omega, by go_num, fun x' hx' => by
              by_cases e : x' = x
              ·subst e; exact HG3.out
              ·exact HGX.out x' (by omega), trivial⟩
             case measure => simp [intOf]; omega
            ·go_wp2_with (fail)
             go_ret
             exact ⟨by rw [HB3.out (by trivial)]; rfl, rfl⟩
          ·obtain rfl : x = n := by omega
           go_wp2_with (fail)
           go_roundw
           case rel => exact ⟨u + 1, by omega, by go_num, fun u' hu' => by
            by_cases e : u' = u
            ·subst e; exact ⟨HG2.out, fun x' hx' => HGX.out x' (by rw [HN.out] at hx'; exact hx')⟩
            ·exact HGU.out u' (by omega), trivial⟩
           case measure => simp [intOf]; omega
        ·go_wp2_with (fail)
         go_ret
         exact ⟨by rw [HB2.out (by trivial)]; rfl, rfl⟩
      ·obtain rfl : u = n := by omega
       go_wp2_with (fail)
       go_roundw
       case rel => exact ⟨k + 1, by omega, by go_num, fun k' hk' => by
        by_cases e : k' = k
        ·subst e; exact ⟨HG1.out, fun u' hu' => HGU.out u' (by rw [HN.out] at hu'; exact hu')⟩
        ·exact HG.out k' (by omega), trivial⟩
       case measure => simp [intOf]; omega
    ·go_wp2_with (fail)
     go_ret
     exact ⟨by rw [HB1.out (by trivial)]; rfl, rfl⟩
  ·obtain rfl : k = n := by omega
   have HN1 : Hid (rb = true) := Lib.hid (by rw [HRB.out]; exact HYE.out (HFI.out.2 HG.out))
   go_wp2_with (fail)
   go_ret
   exact ⟨by rw [HN1.out]; rfl, rfl⟩
end Go.Proofs.YtflmllablfjfeaaDoor
