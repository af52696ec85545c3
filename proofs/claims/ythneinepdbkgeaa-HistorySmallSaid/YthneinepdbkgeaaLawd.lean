/- Functions of the law: looks (33), at an entry that there is not. -/
import Derived.Test.YthneinepdbkgeaaLawc
namespace Go.Proofs.Ythneinepdbkgeaa
open Go.RowKit Go.HK
set_option linter.unusedVariables false
set_option linter.unusedSimpArgs false
set_option linter.unusedSectionVars false
set_option maxRecDepth 100000 in
set_option maxHeartbeats 8000000 in
theorem looks_no {w : World} {t now : Nat} {F : List Nat} {nodes : List Go.HK.HN} (h : Hist w t F nodes now) (ge ce gn gc : Nat) (ga : Option Addr) (he : EntsAt w ge (ents nodes)) (n : Int) (hn : ¬ (0 ≤ n ∧ n < nodes.length)) (m : Int) (s : ByteArray) (L : List Nat) (k : Int) (hL : L.length ≤ 2000)
    (hp : ∀ W, Below w.heap.size w W → Calls Try.prog 21 #[.pointer (some ⟨t, 0, none⟩), .int .i64 n, .int .i64 m] W (RetI W L k))
    (hr : ∀ W, Below w.heap.size w W → Calls Try.prog 52 #[.agg #[.slice (some ⟨ge, 0, none⟩) nodes.length ce, .int .i64 (now : Int), .slice ga gn gc], .int .i64 n, .int .i64 m] W (RetI W L k)) :
    Calls Try.prog 33 #[.pointer (some ⟨t, 0, none⟩), .agg #[.slice (some ⟨ge, 0, none⟩) nodes.length ce, .int .i64 (now : Int), .slice ga gn gc], .int .i64 n, .int .i64 m, .string s] w (RetTr w) := by
  have hle := h.1.le
  obtain ⟨G, hG⟩ : ∃ G, G = w.heap.size := ⟨_, rfl⟩
  obtain ⟨nl, hnl⟩ : ∃ nl, nl = nodes.length := ⟨_, rfl⟩
  obtain ⟨w1, hw1⟩ : ∃ w1, w1 = w.alloc (.cells #[.slice (some ⟨ge, 0, none⟩) nl ce, .int .i64 (now : Int), .slice ga gn gc] 63) := ⟨_, rfl⟩
  have hB1 : Below w.heap.size w w1 := by rw [hw1]; exact (Below.refl _ w).alloc (Nat.le_refl _) _
  have hX1 : w1.heap[G]? = some (.cells #[.slice (some ⟨ge, 0, none⟩) nl ce, .int .i64 (now : Int), .slice ga gn gc] 63 (0, 0)) := by rw [hw1, hG]; exact HK.blk_new _ _
  have he1 := he.below hB1 (Nat.le_refl _)
  have hh : ∀ W, Below w1.heap.size w1 W → Hist W t F nodes now := fun W hB => h.stay (Frm.of_below (hB1.trans (hB.mono hB1.size)) (fun _ => False)) (fun _ _ => id)
  have hE : ∀ W, Below w1.heap.size w1 W → EntsAt W ge (ents nodes) := fun W hB => he1.below hB (Nat.le_refl _)
  have hen := entry_no (hh w1 (Below.refl _ _)) n hn
  have hki := fun W hB => children_no (hh W hB) n hn
  have hwa := fun W hB => way_no (hh W hB) n hn
  have hbe := fun W (hB : Below w1.heap.size w1 W) => hp W (hB1.trans (hB.mono hB1.size))
  have hrb := fun W (hB : Below w1.heap.size w1 W) => hr W (hB1.trans (hB.mono hB1.size))
  have hfi := fun W hB => find_state (hh W hB) s
  have hrf := fun W hB => rfind_any hle W ge ce gn gc ga (now : Int) s (hE W hB)
  have hfl : (idxOf nodes s).length ≤ 1000 := Nat.le_trans (filt_len (fun j => decide (stateF nodes j = s)) nodes.length) hle
  obtain ⟨D, hD⟩ : ∃ D, D = idxOf nodes s := ⟨_, rfl⟩
  rw [← hD] at hfi hrf hfl
  rw [← hnl] at hrb hrf hn hle ⊢
  unfold RetI at hki hwa hbe hrb
  unfold RetS at hfi hrf
  unfold RetE at hen
  simp only [rv] at hrf
  have hn2 : n < 0 ∨ (¬ n < 0 ∧ (nl : Int) ≤ n) := by omega
  have HEN := Lib.hid hen
  have HKI := Lib.hid hki
  have HWA := Lib.hid hwa
  have HBE := Lib.hid hbe
  have HRB := Lib.hid hrb
  have HFI := Lib.hid hfi
  have HRF := Lib.hid hrf
  have HX1 := Lib.hid hX1
  have HB1 := Lib.hid hB1
  have HW1 := Lib.hid hw1
  have HG := Lib.hid hG
  clear hen hki hwa hbe hrb hfi hrf hX1 hB1 hw1 hG hp hr hh hE he1 he h hD hnl hn
  rcases hn2 with b0 | ⟨b0, b1⟩
  · go_enter Try.func33, Try.ntmps33
    go_upto_region 1 with (fail)
    rw [← HW1.out, ← HG.out]
    go_upto_region 2 with (go_at_call 24; refine HEN.out.mono ?_; rintro e w2 ⟨rfl, hB2⟩; have HB2 := Lib.hid hB2; clear hB2)
    obtain ⟨X, hX⟩ : ∃ X, X = w2.heap.size := ⟨_, rfl⟩
    obtain ⟨w3, hw3⟩ : ∃ w3, w3 = w2.alloc (.cells #[.int .i64 0, .int .i64 0, .string ⟨#[]⟩, .string ⟨#[]⟩] 45) := ⟨_, rfl⟩
    rw [← hw3, ← hX]
    have hB3 : Below w1.heap.size w1 w3 := by rw [hw3]; exact HB2.out.alloc HB2.out.size _
    have hX3 : w3.heap[X]? = some (.cells #[.int .i64 0, .int .i64 0, .string ⟨#[]⟩, .string ⟨#[]⟩] 45 (0, 0)) := by rw [hw3, hX]; exact HK.blk_new _ _
    have HB3 := Lib.hid hB3
    have HX3 := Lib.hid hX3
    clear hB3 hX3 hw3 hX
    go_upto_region 10 with (first
      | (go_at_call 25; refine (HKI.out w3 HB3.out).mono ?_; rintro e w4 ⟨v4, rfl, hv4, hB4⟩; obtain ⟨a4, c4, rfl⟩ := own_shape hv4; have HR4 := Lib.hid hv4; have HB34 := Lib.hid hB4; have HB4 := Lib.hid (HB3.out.trans (hB4.mono HB3.out.size)); clear hv4 hB4)
      | (go_at_call 22; refine (HWA.out w4 HB4.out).mono ?_; rintro e w5 ⟨v5, rfl, hv5, hB5⟩; obtain ⟨a5, c5, rfl⟩ := own_shape hv5; have HR5 := Lib.hid hv5; have HB45 := Lib.hid hB5; have HB5 := Lib.hid (HB4.out.trans (hB5.mono HB4.out.size)); clear hv5 hB5)
      | (go_at_call 21; refine (HBE.out w5 HB5.out).mono ?_; rintro e w6 ⟨v6, rfl, hv6, hB6⟩; have HR6 := Lib.hid hv6; have HB56 := Lib.hid hB6; have HB6 := Lib.hid (HB5.out.trans (hB6.mono HB5.out.size)); clear hv6 hB6; have hbx6 := blk_up9 HB6.out HX1.out; have x0 := HK.blk_cell hbx6 0; have x1 := HK.blk_cell hbx6 1; have x2 := HK.blk_cell hbx6 2; clear hbx6)
      | (go_at_call 52; refine (HRB.out w6 HB6.out).mono ?_; rintro e w7 ⟨v7, rfl, hv7, hB7⟩; have HR7 := Lib.hid hv7; have HB67 := Lib.hid hB7; have HB7 := Lib.hid (HB6.out.trans (hB7.mono HB6.out.size)); clear hv7 hB7; have hbx7 := blk_up9 HB7.out HX1.out; have x0 := HK.blk_cell hbx7 0; have x1 := HK.blk_cell hbx7 1; have x2 := HK.blk_cell hbx7 2; clear hbx7)
      | (go_at_call 26; refine (HFI.out w7 HB7.out).mono ?_; rintro e w8 ⟨v8, rfl, hv8, hB8⟩; have HR8 := Lib.hid hv8; have HB78 := Lib.hid hB8; have HB8 := Lib.hid (HB7.out.trans (hB8.mono HB7.out.size)); clear hv8 hB8; have hbx8 := blk_up9 HB8.out HX1.out; have x0 := HK.blk_cell hbx8 0; have x1 := HK.blk_cell hbx8 1; have x2 := HK.blk_cell hbx8 2; clear hbx8))
    have hr6 := own_below9 HR6.out (HB67.out.trans (HB78.out.mono HB67.out.size))
    have hr7 := own_below9 HR7.out HB78.out
    have HS1 := Lib.hid (same_own w8 v6 v7 _ _ L hL hr6 hr7)
    clear hr6 hr7
    go_upto_region 13 with (first
      | (go_at_call 23; (with_reducible refine HS1.out.mono ?_); rintro e w9 ⟨rfl, d9, hw9⟩; have HB89 : Hid (Below w8.heap.size w8 w9) := Lib.hid (by rw [hw9]; exact bl_dr9 (Below.refl _ _) _); have HB9 := Lib.hid (HB8.out.trans (HB89.out.mono HB8.out.size)); clear hw9; have hbx9 := blk_up9 HB9.out HX1.out; have x0 := HK.blk_cell hbx9 0; have x1 := HK.blk_cell hbx9 1; have x2 := HK.blk_cell hbx9 2; clear hbx9)
      | (go_at_call 53; refine (HRF.out w9 HB9.out).mono ?_; rintro e w10 ⟨v10, rfl, hv10, hB10⟩; have HR10 := Lib.hid hv10; have HB910 := Lib.hid hB10; have HB10 := Lib.hid (HB9.out.trans (hB10.mono HB9.out.size)); clear hv10 hB10; have HS2 := Lib.hid (same_own w10 v8 v10 _ _ D (by omega) (own_below9 HR8.out (HB89.out.trans (HB910.out.mono HB89.out.size))) HR10.out))
      | (go_at_call 23; (with_reducible refine HS2.out.mono ?_); rintro e w11 ⟨rfl, d11, hw11⟩; have HB1011 : Hid (Below w10.heap.size w10 w11) := Lib.hid (by rw [hw11]; exact bl_dr9 (Below.refl _ _) _); have HB11 := Lib.hid (HB10.out.trans (HB1011.out.mono HB10.out.size)); clear hw11))
    have h48 : Below w4.heap.size w4 w8 := HB45.out.trans ((HB56.out.trans ((HB67.out.trans (HB78.out.mono HB67.out.size)).mono HB56.out.size)).mono HB45.out.size)
    have h811 : Below w8.heap.size w8 w11 := HB89.out.trans ((HB910.out.trans (HB1011.out.mono HB910.out.size)).mono HB89.out.size)
    have h411 : Below w4.heap.size w4 w11 := h48.trans (h811.mono h48.size)
    have h311 : Below w3.heap.size w3 w11 := HB34.out.trans (h411.mono HB34.out.size)
    have hy := blk_up9 h311 HX3.out
    have y0 := HK.blk_cell hy 0
    have y1 := HK.blk_cell hy 1
    have y2 := HK.blk_cell hy 2
    have y3 := HK.blk_cell hy 3
    clear h48 h811 h411 h311 x0 x1 x2 hy
    go_wp2_with (fail)
    go_ret
    exact ⟨rfl, HB1.out.trans (HB11.out.mono HB1.out.size)⟩
  · go_enter Try.func33, Try.ntmps33
    go_upto_region 1 with (fail)
    rw [← HW1.out, ← HG.out]
    go_upto_region 2 with (go_at_call 24; refine HEN.out.mono ?_; rintro e w2 ⟨rfl, hB2⟩; have HB2 := Lib.hid hB2; clear hB2)
    obtain ⟨X, hX⟩ : ∃ X, X = w2.heap.size := ⟨_, rfl⟩
    obtain ⟨w3, hw3⟩ : ∃ w3, w3 = w2.alloc (.cells #[.int .i64 0, .int .i64 0, .string ⟨#[]⟩, .string ⟨#[]⟩] 45) := ⟨_, rfl⟩
    rw [← hw3, ← hX]
    have hB3 : Below w1.heap.size w1 w3 := by rw [hw3]; exact HB2.out.alloc HB2.out.size _
    have hX3 : w3.heap[X]? = some (.cells #[.int .i64 0, .int .i64 0, .string ⟨#[]⟩, .string ⟨#[]⟩] 45 (0, 0)) := by rw [hw3, hX]; exact HK.blk_new _ _
    have HB3 := Lib.hid hB3
    have HX3 := Lib.hid hX3
    clear hB3 hX3 hw3 hX
    go_upto_region 10 with (first
      | (go_at_call 25; refine (HKI.out w3 HB3.out).mono ?_; rintro e w4 ⟨v4, rfl, hv4, hB4⟩; obtain ⟨a4, c4, rfl⟩ := own_shape hv4; have HR4 := Lib.hid hv4; have HB34 := Lib.hid hB4; have HB4 := Lib.hid (HB3.out.trans (hB4.mono HB3.out.size)); clear hv4 hB4)
      | (go_at_call 22; refine (HWA.out w4 HB4.out).mono ?_; rintro e w5 ⟨v5, rfl, hv5, hB5⟩; obtain ⟨a5, c5, rfl⟩ := own_shape hv5; have HR5 := Lib.hid hv5; have HB45 := Lib.hid hB5; have HB5 := Lib.hid (HB4.out.trans (hB5.mono HB4.out.size)); clear hv5 hB5)
      | (go_at_call 21; refine (HBE.out w5 HB5.out).mono ?_; rintro e w6 ⟨v6, rfl, hv6, hB6⟩; have HR6 := Lib.hid hv6; have HB56 := Lib.hid hB6; have HB6 := Lib.hid (HB5.out.trans (hB6.mono HB5.out.size)); clear hv6 hB6; have hbx6 := blk_up9 HB6.out HX1.out; have x0 := HK.blk_cell hbx6 0; have x1 := HK.blk_cell hbx6 1; have x2 := HK.blk_cell hbx6 2; clear hbx6)
      | (go_at_call 52; refine (HRB.out w6 HB6.out).mono ?_; rintro e w7 ⟨v7, rfl, hv7, hB7⟩; have HR7 := Lib.hid hv7; have HB67 := Lib.hid hB7; have HB7 := Lib.hid (HB6.out.trans (hB7.mono HB6.out.size)); clear hv7 hB7; have hbx7 := blk_up9 HB7.out HX1.out; have x0 := HK.blk_cell hbx7 0; have x1 := HK.blk_cell hbx7 1; have x2 := HK.blk_cell hbx7 2; clear hbx7)
      | (go_at_call 26; refine (HFI.out w7 HB7.out).mono ?_; rintro e w8 ⟨v8, rfl, hv8, hB8⟩; have HR8 := Lib.hid hv8; have HB78 := Lib.hid hB8; have HB8 := Lib.hid (HB7.out.trans (hB8.mono HB7.out.size)); clear hv8 hB8; have hbx8 := blk_up9 HB8.out HX1.out; have x0 := HK.blk_cell hbx8 0; have x1 := HK.blk_cell hbx8 1; have x2 := HK.blk_cell hbx8 2; clear hbx8))
    have hr6 := own_below9 HR6.out (HB67.out.trans (HB78.out.mono HB67.out.size))
    have hr7 := own_below9 HR7.out HB78.out
    have HS1 := Lib.hid (same_own w8 v6 v7 _ _ L hL hr6 hr7)
    clear hr6 hr7
    go_upto_region 13 with (first
      | (go_at_call 23; (with_reducible refine HS1.out.mono ?_); rintro e w9 ⟨rfl, d9, hw9⟩; have HB89 : Hid (Below w8.heap.size w8 w9) := Lib.hid (by rw [hw9]; exact bl_dr9 (Below.refl _ _) _); have HB9 := Lib.hid (HB8.out.trans (HB89.out.mono HB8.out.size)); clear hw9; have hbx9 := blk_up9 HB9.out HX1.out; have x0 := HK.blk_cell hbx9 0; have x1 := HK.blk_cell hbx9 1; have x2 := HK.blk_cell hbx9 2; clear hbx9)
      | (go_at_call 53; refine (HRF.out w9 HB9.out).mono ?_; rintro e w10 ⟨v10, rfl, hv10, hB10⟩; have HR10 := Lib.hid hv10; have HB910 := Lib.hid hB10; have HB10 := Lib.hid (HB9.out.trans (hB10.mono HB9.out.size)); clear hv10 hB10; have HS2 := Lib.hid (same_own w10 v8 v10 _ _ D (by omega) (own_below9 HR8.out (HB89.out.trans (HB910.out.mono HB89.out.size))) HR10.out))
      | (go_at_call 23; (with_reducible refine HS2.out.mono ?_); rintro e w11 ⟨rfl, d11, hw11⟩; have HB1011 : Hid (Below w10.heap.size w10 w11) := Lib.hid (by rw [hw11]; exact bl_dr9 (Below.refl _ _) _); have HB11 := Lib.hid (HB10.out.trans (HB1011.out.mono HB10.out.size)); clear hw11))
    have h48 : Below w4.heap.size w4 w8 := HB45.out.trans ((HB56.out.trans ((HB67.out.trans (HB78.out.mono HB67.out.size)).mono HB56.out.size)).mono HB45.out.size)
    have h811 : Below w8.heap.size w8 w11 := HB89.out.trans ((HB910.out.trans (HB1011.out.mono HB910.out.size)).mono HB89.out.size)
    have h411 : Below w4.heap.size w4 w11 := h48.trans (h811.mono h48.size)
    have h311 : Below w3.heap.size w3 w11 := HB34.out.trans (h411.mono HB34.out.size)
    have hy := blk_up9 h311 HX3.out
    have y0 := HK.blk_cell hy 0
    have y1 := HK.blk_cell hy 1
    have y2 := HK.blk_cell hy 2
    have y3 := HK.blk_cell hy 3
    clear h48 h811 h411 h311 x0 x1 x2 hy
    go_wp2_with (fail)
    go_ret
    exact ⟨rfl, HB1.out.trans (HB11.out.mono HB1.out.size)⟩
end Go.Proofs.Ythneinepdbkgeaa
