/- Functions of the law: looks (33), at an entry that there is. -/
import Derived.Test.YthneinepdbkgeaaLawa
import Derived.Test.YthneinepdbkgeaaRefi
import Derived.Deep.CutRange
namespace Go.Proofs.Ythneinepdbkgeaa
open Go.RowKit Go.HK
set_option linter.unusedVariables false
set_option linter.unusedSimpArgs false
set_option linter.unusedSectionVars false
theorem over_next {w w' : World} {u v : Value} {b n : Nat} {xs : List Value} (h : Frm (fun b => v.ownBlock = some b) w w') (hu : w.ownsRow b 3 1 u n xs) (hd : ∀ p q, v.ownBlock = some p → u.ownBlock = some q → p ≠ q) : w'.ownsRow b 3 1 u n xs :=
  h.owns hu fun g e1 e2 => hd g g e2 e1 rfl
set_option maxRecDepth 100000 in
set_option maxHeartbeats 16000000 in
theorem looks_yes {w : World} {t now : Nat} {F : List Nat} {nodes : List Go.HK.HN} (h : Hist w t F nodes now) (ge ce gn gc : Nat) (ga : Option Addr) (he : EntsAt w ge (ents nodes)) (n : Nat) (hn : n < nodes.length) (m : Int) (s : ByteArray) (L : List Nat) (k : Int) (hL : L.length ≤ 2000)
    (hp : ∀ W, Below w.heap.size w W → Calls Try.prog 21 #[.pointer (some ⟨t, 0, none⟩), .int .i64 (n : Int), .int .i64 m] W (RetI W L k))
    (hr : ∀ W, Below w.heap.size w W → Calls Try.prog 52 #[.agg #[.slice (some ⟨ge, 0, none⟩) nodes.length ce, .int .i64 (now : Int), .slice ga gn gc], .int .i64 (n : Int), .int .i64 m] W (RetI W L k)) :
    Calls Try.prog 33 #[.pointer (some ⟨t, 0, none⟩), .agg #[.slice (some ⟨ge, 0, none⟩) nodes.length ce, .int .i64 (now : Int), .slice ga gn gc], .int .i64 (n : Int), .int .i64 m, .string s] w (RetTr w) := by
  have hle := h.1.le
  obtain ⟨xn, hxn⟩ := get_of_lt hn
  have hxe : (ents nodes)[n]? = some xn.ent := by simp [ents, hxn]
  obtain ⟨G, hG⟩ : ∃ G, G = w.heap.size := ⟨_, rfl⟩
  obtain ⟨nl, hnl⟩ : ∃ nl, nl = nodes.length := ⟨_, rfl⟩
  obtain ⟨w1, hw1⟩ : ∃ w1, w1 = w.alloc (.cells #[.slice (some ⟨ge, 0, none⟩) nl ce, .int .i64 (now : Int), .slice ga gn gc] 63) := ⟨_, rfl⟩
  have hB1 : Below w.heap.size w w1 := by rw [hw1]; exact (Below.refl _ w).alloc (Nat.le_refl _) _
  have hX1 : w1.heap[G]? = some (.cells #[.slice (some ⟨ge, 0, none⟩) nl ce, .int .i64 (now : Int), .slice ga gn gc] 63 (0, 0)) := by rw [hw1, hG]; exact HK.blk_new _ _
  have he1 := he.below hB1 (Nat.le_refl _)
  have hh : ∀ W, Below w1.heap.size w1 W → Hist W t F nodes now := fun W hB => h.stay (Frm.of_below (hB1.trans (hB.mono hB1.size)) (fun _ => False)) (fun _ _ => id)
  have hE : ∀ W, Below w1.heap.size w1 W → EntsAt W ge (ents nodes) := fun W hB => he1.below hB (Nat.le_refl _)
  have hen := entry_yes (hh w1 (Below.refl _ _)) n hn
  rw [parF_get hxn, tickF_get hxn, noteF_get hxn, stateF_get hxn] at hen
  have hki := fun W hB => children_yes (hh W hB) n hn
  have hwa := fun W hB => way_yes (hh W hB) n hn
  have hbe := fun W (hB : Below w1.heap.size w1 W) => hp W (hB1.trans (hB.mono hB1.size))
  have hrb := fun W (hB : Below w1.heap.size w1 W) => hr W (hB1.trans (hB.mono hB1.size))
  have hfi := fun W hB => find_state (hh W hB) s
  have hrf := fun W hB => rfind_any hle W ge ce gn gc ga (now : Int) s (hE W hB)
  have hrk := fun W hB => rkids_any hle W ge ce gn gc ga (now : Int) n (hE W hB)
  have hrw := fun W hB => rway_any h.1 ge ce gn gc ga (now : Int) (n + 1) (n : Int) (by omega) (by omega) (by omega) W (hE W hB)
  simp only [wayI_nat] at hrw
  have hkl : (kidsOf nodes n).length ≤ 1000 := Nat.le_trans (filt_len (fun j => decide (parF nodes j = (n : Int))) nodes.length) hle
  have hfl : (idxOf nodes s).length ≤ 1000 := Nat.le_trans (filt_len (fun j => decide (stateF nodes j = s)) nodes.length) hle
  have hwl : (wayL nodes n).length ≤ 1000 := wayL_len9 h.1 hn
  obtain ⟨K, hK⟩ : ∃ K, K = kidsOf nodes n := ⟨_, rfl⟩
  obtain ⟨V, hV⟩ : ∃ V, V = wayL nodes n := ⟨_, rfl⟩
  obtain ⟨D, hD⟩ : ∃ D, D = idxOf nodes s := ⟨_, rfl⟩
  rw [← hK] at hki hrk hkl
  rw [← hV] at hwa hrw hwl
  rw [← hD] at hfi hrf hfl
  rw [← hnl] at hrb hrf hrk hrw hn hle ⊢
  unfold RetI at hki hwa hbe hrb
  unfold RetS at hfi hrf hrk hrw
  unfold RetE at hen
  simp only [rv] at hrf hrk
  have hc := fun W hB => (hE W hB).c n xn.ent hxe
  obtain ⟨P, T, M, S, FV⟩ := xn
  simp only [Go.HK.HN.ent] at hc hen
  have HEN := Lib.hid hen
  have HKI := Lib.hid hki
  have HWA := Lib.hid hwa
  have HBE := Lib.hid hbe
  have HRB := Lib.hid hrb
  have HFI := Lib.hid hfi
  have HRF := Lib.hid hrf
  have HRK := Lib.hid hrk
  have HRW := Lib.hid hrw
  have HCC := Lib.hid hc
  have HX1 := Lib.hid hX1
  have HB1 := Lib.hid hB1
  have HW1 := Lib.hid hw1
  have HG := Lib.hid hG
  clear hen hki hwa hbe hrb hfi hrf hrk hrw hc hX1 hB1 hw1 hG hxe hxn hp hr hh hE he1 he h hK hV hD hnl
  have b0 : (0 : Int) ≤ (n : Int) := by omega
  have b1 : (n : Int) < (nl : Int) := by omega
  have b2 : ¬ (n : Int) < 0 := by omega
  have b3 : ¬ (nl : Int) ≤ (n : Int) := by omega
  go_enter Try.func33, Try.ntmps33
  go_upto_region 1 with (fail)
  rw [← HW1.out, ← HG.out]
  go_upto_region 2 with (go_at_call 24; refine HEN.out.mono ?_; rintro e w2 ⟨rfl, hB2⟩; have HB2 := Lib.hid hB2; clear hB2)
  obtain ⟨X, hX⟩ : ∃ X, X = w2.heap.size := ⟨_, rfl⟩
  obtain ⟨w3, hw3⟩ : ∃ w3, w3 = w2.alloc (.cells #[.int .i64 P, .int .i64 T, .string M, .string S] 45) := ⟨_, rfl⟩
  rw [← hw3, ← hX]
  have hB3 : Below w1.heap.size w1 w3 := by rw [hw3]; exact HB2.out.alloc HB2.out.size _
  have hX3 : w3.heap[X]? = some (.cells #[.int .i64 P, .int .i64 T, .string M, .string S] 45 (0, 0)) := by rw [hw3, hX]; exact HK.blk_new _ _
  have HB3 := Lib.hid hB3
  have HX3 := Lib.hid hX3
  clear hB3 hX3 hw3 hX
  go_upto_region 10 with (first
    | (go_at_call 25; refine (HKI.out w3 HB3.out).mono ?_; rintro e w4 ⟨v4, rfl, hv4, hB4⟩; have HR4 := Lib.hid hv4; have HB34 := Lib.hid hB4; have HB4 := Lib.hid (HB3.out.trans (hB4.mono HB3.out.size)); clear hv4 hB4)
    | (go_at_call 22; refine (HWA.out w4 HB4.out).mono ?_; rintro e w5 ⟨v5, rfl, hv5, hB5⟩; have HR5 := Lib.hid hv5; have HB45 := Lib.hid hB5; have HB5 := Lib.hid (HB4.out.trans (hB5.mono HB4.out.size)); clear hv5 hB5)
    | (go_at_call 21; refine (HBE.out w5 HB5.out).mono ?_; rintro e w6 ⟨v6, rfl, hv6, hB6⟩; have HR6 := Lib.hid hv6; have HB56 := Lib.hid hB6; have HB6 := Lib.hid (HB5.out.trans (hB6.mono HB5.out.size)); clear hv6 hB6; have hbx6 := blk_up9 HB6.out HX1.out; have x0 := HK.blk_cell hbx6 0; have x1 := HK.blk_cell hbx6 1; have x2 := HK.blk_cell hbx6 2; clear hbx6)
    | (go_at_call 52; refine (HRB.out w6 HB6.out).mono ?_; rintro e w7 ⟨v7, rfl, hv7, hB7⟩; have HR7 := Lib.hid hv7; have HB67 := Lib.hid hB7; have HB7 := Lib.hid (HB6.out.trans (hB7.mono HB6.out.size)); clear hv7 hB7; have hbx7 := blk_up9 HB7.out HX1.out; have x0 := HK.blk_cell hbx7 0; have x1 := HK.blk_cell hbx7 1; have x2 := HK.blk_cell hbx7 2; clear hbx7)
    | (go_at_call 26; refine (HFI.out w7 HB7.out).mono ?_; rintro e w8 ⟨v8, rfl, hv8, hB8⟩; have HR8 := Lib.hid hv8; have HB78 := Lib.hid hB8; have HB8 := Lib.hid (HB7.out.trans (hB8.mono HB7.out.size)); clear hv8 hB8; have hbx8 := blk_up9 HB8.out HX1.out; have x0 := HK.blk_cell hbx8 0; have x1 := HK.blk_cell hbx8 1; have x2 := HK.blk_cell hbx8 2; clear hbx8))
  have hr6 := own_below9 HR6.out (HB67.out.trans (HB78.out.mono HB67.out.size))
  have hr7 := own_below9 HR7.out HB78.out
  have HS1 := Lib.hid (same_own w8 v6 v7 _ _ L hL hr6 hr7)
  clear hr6 hr7
  go_upto_region 14 with (first
    | (go_at_call 23; (with_reducible refine HS1.out.mono ?_); rintro e w9 ⟨rfl, d9, hw9⟩; have HB89 : Hid (Below w8.heap.size w8 w9) := Lib.hid (by rw [hw9]; exact bl_dr9 (Below.refl _ _) _); have HB9 := Lib.hid (HB8.out.trans (HB89.out.mono HB8.out.size)); clear hw9; have hbx9 := blk_up9 HB9.out HX1.out; have x0 := HK.blk_cell hbx9 0; have x1 := HK.blk_cell hbx9 1; have x2 := HK.blk_cell hbx9 2; clear hbx9)
    | (go_at_call 53; refine (HRF.out w9 HB9.out).mono ?_; rintro e w10 ⟨v10, rfl, hv10, hB10⟩; have HR10 := Lib.hid hv10; have HB910 := Lib.hid hB10; have HB10 := Lib.hid (HB9.out.trans (hB10.mono HB9.out.size)); clear hv10 hB10; have HS2 := Lib.hid (same_own w10 v8 v10 _ _ D (by omega) (own_below9 HR8.out (HB89.out.trans (HB910.out.mono HB89.out.size))) HR10.out))
    | (go_at_call 23; (with_reducible refine HS2.out.mono ?_); rintro e w11 ⟨rfl, d11, hw11⟩; have HB1011 : Hid (Below w10.heap.size w10 w11) := Lib.hid (by rw [hw11]; exact bl_dr9 (Below.refl _ _) _); have HB11 := Lib.hid (HB10.out.trans (HB1011.out.mono HB10.out.size)); clear hw11))
  have h48 : Below w4.heap.size w4 w8 := HB45.out.trans ((HB56.out.trans ((HB67.out.trans (HB78.out.mono HB67.out.size)).mono HB56.out.size)).mono HB45.out.size)
  have h811 : Below w8.heap.size w8 w11 := HB89.out.trans ((HB910.out.trans (HB1011.out.mono HB910.out.size)).mono HB89.out.size)
  have h411 : Below w4.heap.size w4 w11 := h48.trans (h811.mono h48.size)
  have h311 : Below w3.heap.size w3 w11 := HB34.out.trans (h411.mono HB34.out.size)
  have h511 : Below w5.heap.size w5 w11 := by
    have h56 := HB56.out.trans ((HB67.out.trans (HB78.out.mono HB67.out.size)).mono HB56.out.size)
    exact h56.trans (h811.mono h56.size)
  have h611 : Below w6.heap.size w6 w11 := by
    have h67 := HB67.out.trans (HB78.out.mono HB67.out.size)
    exact h67.trans (h811.mono h67.size)
  have HY3 := Lib.hid (blk_up9 h311 HX3.out)
  have HY4 := Lib.hid (own_below9 HR4.out h411)
  have HY5 := Lib.hid (own_below9 HR5.out h511)
  have HY6 := Lib.hid (own_below9 HR6.out h611)
  have HY8 := Lib.hid (own_below9 HR8.out h811)
  clear h48 h811 h411 h311 h511 h611 x0 x1 x2
  go_cut [134] from 112 to 134 (fun v wx => v = .bool false ∧ Below w11.heap.size w11 wx)
  case first =>
    have hbx := blk_up9 HB11.out HX1.out
    have x0 := HK.blk_cell hbx 0
    have x1 := HK.blk_cell hbx 1
    have x2 := HK.blk_cell hbx 2
    have y0 := HK.blk_cell HY3.out 0
    have y1 := HK.blk_cell HY3.out 1
    have y2 := HK.blk_cell HY3.out 2
    have y3 := HK.blk_cell HY3.out 3
    obtain ⟨z0, z1, z2, z3⟩ := HCC.out w11 HB11.out
    have HBd := Lib.hid (show Below w1.heap.size w1 w11.drew from ⟨HB11.out.os, HB11.out.tape, HB11.out.output, HB11.out.size, HB11.out.block⟩)
    clear hbx
    go_region_with (first
      | (go_at_call 54; (with_reducible refine (HRK.out w11.drew HBd.out).mono ?_); rintro e w12 ⟨v12, rfl, hv12, hB12⟩; have HB12 := Lib.hid (show Below w11.heap.size w11 w12 from ⟨hB12.os, hB12.tape, hB12.output, hB12.size, hB12.block⟩); have HS3 := Lib.hid (same_own w12 v4 v12 _ _ K (by omega) (own_below9 HY4.out HB12.out) hv12); clear hv12 hB12)
      | (go_at_call 23; (with_reducible refine HS3.out.mono ?_); rintro e w13 ⟨rfl, d13, hw13⟩; have HB13 := Lib.hid (show Below w11.heap.size w11 w13 by rw [hw13]; exact bl_dr9 HB12.out _); clear hw13; have hbx := blk_up9 (HB11.out.trans (HB13.out.mono HB11.out.size)) HX1.out; have x0 := HK.blk_cell hbx 0; have x1 := HK.blk_cell hbx 1; have x2 := HK.blk_cell hbx 2; clear hbx)
      | (go_at_call 55; (with_reducible refine (HRW.out w13 (HB11.out.trans (HB13.out.mono HB11.out.size))).mono ?_); rintro e w14 ⟨v14, rfl, hv14, hB14⟩; have HB14 := Lib.hid (HB13.out.trans (hB14.mono HB13.out.size)); have HS4 := Lib.hid (same_own w14 v5 v14 _ _ V (by omega) (own_below9 HY5.out HB14.out) hv14); clear hv14 hB14)
      | (go_at_call 23; (with_reducible refine HS4.out.mono ?_); rintro e w15 ⟨rfl, d15, hw15⟩; have HB15 := Lib.hid (show Below w11.heap.size w11 w15 by rw [hw15]; exact bl_dr9 HB14.out _); clear hw15))
    all_goals (simp only [Exit.inBlock, Exit.then]; go_simp; go_step; go_meet; case rel => exact ⟨rfl, HB15.out⟩)
  case rest =>
    obtain ⟨rfl, hBc⟩ := hcut
    have hs3 := HB3.out.size
    have hs4 := HB34.out.size
    have hs5 := HB45.out.size
    have hs6 := HB56.out.size
    have hs7 := HB67.out.size
    have D45 : Hid (∀ p q, v4.ownBlock = some p → v5.ownBlock = some q → p ≠ q) := Lib.hid (fun p q e1 e2 => by have := own_lt HR4.out p e1; have := own_ge HR5.out q e2; omega)
    have D46 : Hid (∀ p q, v4.ownBlock = some p → v6.ownBlock = some q → p ≠ q) := Lib.hid (fun p q e1 e2 => by have := own_lt HR4.out p e1; have := own_ge HR6.out q e2; omega)
    have D48 : Hid (∀ p q, v4.ownBlock = some p → v8.ownBlock = some q → p ≠ q) := Lib.hid (fun p q e1 e2 => by have := own_lt HR4.out p e1; have := own_ge HR8.out q e2; omega)
    have D56 : Hid (∀ p q, v5.ownBlock = some p → v6.ownBlock = some q → p ≠ q) := Lib.hid (fun p q e1 e2 => by have := own_lt HR5.out p e1; have := own_ge HR6.out q e2; omega)
    have D58 : Hid (∀ p q, v5.ownBlock = some p → v8.ownBlock = some q → p ≠ q) := Lib.hid (fun p q e1 e2 => by have := own_lt HR5.out p e1; have := own_ge HR8.out q e2; omega)
    have D68 : Hid (∀ p q, v6.ownBlock = some p → v8.ownBlock = some q → p ≠ q) := Lib.hid (fun p q e1 e2 => by have := own_lt HR6.out p e1; have := own_ge HR8.out q e2; omega)
    have G4 : Hid (∀ p, v4.ownBlock = some p → w1.heap.size ≤ p) := Lib.hid (fun p e => by have := own_ge HR4.out p e; omega)
    have G5 : Hid (∀ p, v5.ownBlock = some p → w1.heap.size ≤ p) := Lib.hid (fun p e => by have := own_ge HR5.out p e; omega)
    have G6 : Hid (∀ p, v6.ownBlock = some p → w1.heap.size ≤ p) := Lib.hid (fun p e => by have := own_ge HR6.out p e; omega)
    have G8 : Hid (∀ p, v8.ownBlock = some p → w1.heap.size ≤ p) := Lib.hid (fun p e => by have := own_ge HR8.out p e; omega)
    obtain ⟨wq, hwq⟩ : ∃ wq, wq = wc := ⟨_, rfl⟩
    rw [← hwq] at hBc ⊢
    have HBq := Lib.hid (HB11.out.trans (hBc.mono HB11.out.size))
    have HZ4 := Lib.hid (own_below9 HY4.out hBc)
    have HZ5 := Lib.hid (own_below9 HY5.out hBc)
    have HZ6 := Lib.hid (own_below9 HY6.out hBc)
    have HZ8 := Lib.hid (own_below9 HY8.out hBc)
    have HO4 := Lib.hid (over_own HZ4.out (by omega))
    unfold RetOv at HO4
    clear hBc hs3 hs4 hs5 hs6 hs7 hwq
    go_step
    go_wp2_with (first
      | (go_at_call 56; (with_reducible refine HO4.out.mono ?_); rintro e wa ⟨rfl, hFa⟩; have HFa := Lib.hid hFa; have HO5 := Lib.hid (over_own (over_next hFa HZ5.out D45.out) (by omega)); unfold RetOv at HO5; clear hFa)
      | (go_at_call 56; (with_reducible refine HO5.out.mono ?_); rintro e wb ⟨rfl, hFb⟩; have HFb := Lib.hid hFb; have HO6 := Lib.hid (over_own (over_next hFb (over_next HFa.out HZ6.out D46.out) D56.out) hL); unfold RetOv at HO6; clear hFb)
      | (go_at_call 56; (with_reducible refine HO6.out.mono ?_); rintro e wd ⟨rfl, hFd⟩; have HFd := Lib.hid hFd; have HO8 := Lib.hid (over_own (over_next hFd (over_next HFb.out (over_next HFa.out HZ8.out D48.out) D58.out) D68.out) (by omega)); unfold RetOv at HO8; clear hFd)
      | (go_at_call 56; (with_reducible refine HO8.out.mono ?_); rintro e we ⟨rfl, hFe⟩; have HFe := Lib.hid hFe; clear hFe))
    go_ret
    have f0 : Frm (fun b => w1.heap.size ≤ b) w1 wq := Frm.of_below HBq.out _
    have fa := f0.trans (HFa.out.mono (fun b e => G4.out b e))
    have fb := fa.trans (HFb.out.mono (fun b e => G5.out b e))
    have fd := fb.trans (HFd.out.mono (fun b e => G6.out b e))
    have fe := fd.trans (HFe.out.mono (fun b e => G8.out b e))
    exact ⟨rfl, HB1.out.trans ((fe.below (Nat.le_refl _) (fun _ hk => hk)).mono HB1.out.size)⟩
end Go.Proofs.Ythneinepdbkgeaa
