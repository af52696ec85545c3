/- The walk of HistoryBetween. -/
import Derived.Test.YthneinepdbkgeaaBetx
import Derived.Deep.CutBlock
import Derived.Deep.CutRange
import Derived.Deep.RegionWith
import Derived.Deep.QuietTactic
import Derived.BigQuiet
namespace Go.Proofs.Ythneinepdbkgeaa
open Go.RowKit Go.HK
set_option linter.unusedVariables false
set_option linter.unusedSimpArgs false
set_option linter.unusedSectionVars false
theorem below_more {B : Nat} {a b c : World} (h : Below B a b) (k : Below b.heap.size b c) (hB : B ≤ a.heap.size := by omega) : Below B a c := h.trans (k.mono (Nat.le_trans hB h.size))
def TrueR3 (w : World) (e : Ending) (w' : World) : Prop := e = .returned (.bool true) ∧ Below w.heap.size w w'
theorem info3' : (Try.prog.info? 3).map (fun i => (i.zero, i.size, i.bytes)) = some (some (.int .i64 0), 1, 8) := by kernel_rfl
set_option maxRecDepth 100000 in
set_option maxHeartbeats 8000000 in
theorem betw_some (w : World) (v0 : Value) (hacted : ∀ w', Below w.heap.size w w' → Calls Try.prog 13 #[v0] w' (ActedR w')) (a b c : Nat) (ha : a ≤ 255) (hb : b ≤ 255) (hc : c ≤ 255) : Calls Try.prog 5 #[v0, .int .u8 a, .int .u8 b, .int .u8 c] w (TrueR3 w) := by
  obtain ⟨i0, hi, hz0, hz1, hz2⟩ := info_parts info3'
  have HA := Lib.hid hacted
  clear hacted
  go_enter Try.func5, Try.ntmps5
  go_wp2_with (first
    | (go_at_call 12; refine (awake_any _).mono ?_; rintro e w1 ⟨rfl, hB1⟩)
    | (go_at_call 13; refine (HA.out _ hB1).mono ?_; rintro e w2 ⟨t, F, s, m0, NS, SS, p, q, rfl, hW, hAc, hL, hm0, hm1⟩))
  have H2 := Lib.hid hW.h
  have HB2 := Lib.hid (hB1.trans (hW.b.mono hB1.size))
  obtain ⟨L, hLL⟩ : ∃ L, s.1.length = L := ⟨_, rfl⟩
  have hL0 : 0 < L := by have := hW.h.1.pos; omega
  have hL1 : L ≤ 1000 := by have := hW.h.1.le; omega
  clear hW hAc hL hm0 hm1 hB1
  obtain ⟨x, hx⟩ : ∃ x, x = a % L := ⟨_, rfl⟩
  obtain ⟨y, hy⟩ : ∃ y, y = b % L := ⟨_, rfl⟩
  obtain ⟨z, hz⟩ : ∃ z, z = c % L := ⟨_, rfl⟩
  have hxl : x < L := by rw [hx]; exact Nat.mod_lt _ hL0
  have hyl : y < L := by rw [hy]; exact Nat.mod_lt _ hL0
  have hzl : z < L := by rw [hz]; exact Nat.mod_lt _ hL0
  have rx : (IntKind.i64.wrap (a : Int)).tmod (L : Int) = (x : Int) := by rw [hx]; exact rem_small a L ha
  have ry : (IntKind.i64.wrap (b : Int)).tmod (L : Int) = (y : Int) := by rw [hy]; exact rem_small b L hb
  have rz : (IntKind.i64.wrap (c : Int)).tmod (L : Int) = (z : Int) := by rw [hz]; exact rem_small c L hc
  have rx2 : (a : Int) % (L : Int) = (x : Int) := by rw [hx]; simp
  have ry2 : (b : Int) % (L : Int) = (y : Int) := by rw [hy]; simp
  have rz2 : (c : Int) % (L : Int) = (z : Int) := by rw [hz]; simp
  have l0 : ¬ ((L : Int) = 0) := by omega
  have l1 : ¬ (L = 0) := by omega
  have HLL := Lib.hid hLL
  clear hLL hx hy hz
  go_quiet ((go_at_call 20; exact Calls.quiet_of_same ((len_lit L HLL.out (H2.out.drewN _)).mono fun _ _ h => ⟨h.1, h.2.symm⟩)))
  simp only [rx, ry, rz, rx2, ry2, rz2]
  have H3 := Lib.hid (H2.out.drewN nq)
  have hB3 := below_drewN HB2.out nq
  have HB3 := Lib.hid hB3
  have hxs : x < s.1.length := by rw [HLL.out]; exact hxl
  have hys : y < s.1.length := by rw [HLL.out]; exact hyl
  have hzs : z < s.1.length := by rw [HLL.out]; exact hzl
  obtain ⟨m, mo, mt, mr, e1, e2, e3, e4, e5, e6, htri, n1, n2, n3, n4⟩ := betw_data H2.out.1 hxs hys hzs
  have e0 : betweenL s.1 0 x = wayL s.1 x := betweenL_root H2.out.1 hxs
  have OK := betweenL_ok H2.out.1 hxs hys
  have BK := betweenL_back H2.out.1 hxs hys
  have E0 := Lib.hid e0
  have E1 := Lib.hid e1
  have E2 := Lib.hid e2
  have E3 := Lib.hid e3
  have E4 := Lib.hid e4
  have E5 := Lib.hid e5
  have E6 := Lib.hid e6
  have XS := Lib.hid hxs
  have YS := Lib.hid hys
  have ZS := Lib.hid hzs
  have OKH := Lib.hid OK
  have BKH := Lib.hid BK
  have P0 := Lib.hid H2.out.1.pos
  have t1 : ¬ ((mo : Int) + (mt : Int) < (m : Int)) := by omega
  clear e0 e1 e2 e3 e4 e5 e6 hxs hys hzs OK BK rx ry rz rx2 ry2 rz2 l0 l1 hB3
  go_wp2_with (first
    | (go_at_call 21; ((with_reducible refine (between_p H3.out x y m XS.out YS.out E1.out).mono ?_); rintro e w4 ⟨g4, c4, rfl, hr4, hg4, hB4⟩; have R4 := Lib.hid hr4; have D4 := Lib.hid hB4; have H4 := Lib.hid (H3.out.stay (Frm.of_below hB4 (fun _ => False)) (fun _ _ => id)); clear hr4 hg4 hB4))
    | (go_at_call 21; ((with_reducible refine (between_p H4.out y x m YS.out XS.out E2.out).mono ?_); rintro e w5 ⟨g5, c5, rfl, hr5, hg5, hB5⟩; have R5 := Lib.hid hr5; have D5 := Lib.hid hB5; have H5 := Lib.hid (H4.out.stay (Frm.of_below hB5 (fun _ => False)) (fun _ _ => id)); clear hr5 hg5 hB5))
    | (go_at_call 21; ((with_reducible refine (between_p H5.out x z mo XS.out ZS.out E3.out).mono ?_); rintro e w6 ⟨g6, c6, rfl, hr6, hg6, hB6⟩; have D6 := Lib.hid hB6; have H6 := Lib.hid (H5.out.stay (Frm.of_below hB6 (fun _ => False)) (fun _ _ => id)); clear hr6 hg6 hB6))
    | (go_at_call 21; ((with_reducible refine (between_p H6.out z y mt ZS.out YS.out E4.out).mono ?_); rintro e w7 ⟨g7, c7, rfl, hr7, hg7, hB7⟩; have D7 := Lib.hid hB7; have H7 := Lib.hid (H6.out.stay (Frm.of_below hB7 (fun _ => False)) (fun _ _ => id)); clear hr7 hg7 hB7))
    | (go_at_call 21; (refine (between_p H7.out 0 x mr P0.out XS.out E5.out).mono ?_; rintro e w8 ⟨g8, c8, rfl, hr8, hg8, hB8⟩; have R8 := Lib.hid hr8; have D8 := Lib.hid hB8; have H8 := Lib.hid (H7.out.stay (Frm.of_below hB8 (fun _ => False)) (fun _ _ => id)); clear hr8 hg8 hB8))
    | (go_at_call 22
       refine (way_p H8.out x mr XS.out E6.out).mono ?_
       rintro e w9 ⟨g9, c9, rfl, hr9, hg9, hB9⟩
       have hR4 := ((((R4.out.below' D5.out).below' D6.out).below' D7.out).below' D8.out).below' hB9
       have hR5 := (((R5.out.below' D6.out).below' D7.out).below' D8.out).below' hB9
       have hR8 := R8.out.below' hB9
       have H9 := Lib.hid (H8.out.stay (Frm.of_below hB9 (fun _ => False)) (fun _ _ => id))
       have r0 := hR4.cell 0 x OKH.out.first
       have rm : w9.cell? ⟨g4, m, none⟩ = some (.int .i64 y) := hR4.cell m y (by have h1 := OKH.out.last; rw [E1.out] at h1; simpa using h1)
       have Q4 := Lib.hid hR4
       have Q5 := Lib.hid hR5
       have Q8 := Lib.hid hR8
       have Q9 := Lib.hid hr9
       have D9 := Lib.hid hB9
       clear hR4 hR5 hR8 hr9 hg9 hB9 R4 R5 R8)
    | (go_at_call 23; (refine (same_yes w9 g8 c8 g9 c9 (mr + 1) (wayL s.1 x) (by omega) (by rw [← E0.out]; exact Q8.out.nums) Q9.out.nums E6.out.symm).mono ?_; rintro e w10 ⟨rfl, d10, rfl⟩))
    | (go_at_call 20; (refine (len_lit L HLL.out (H9.out.drewN _)).mono ?_; rintro e w11 ⟨rfl, rfl⟩))
    | (at_make; refine wpList_make_row _ rfl _ _ 25 rfl 3 i0 (.int .i64 0) Try.underlying25 hi hz0 hz1 rfl .i64 .i64 L rfl rfl (by rw [hz2]; omega) (by omega) ?_))
  have hI0 := BeI.start (w8 := w9.drewN d10) L
  have hB9 : Below w.heap.size w w9 := below_more (below_more (below_more (below_more (below_more (below_more HB3.out D4.out) D5.out) D6.out) D7.out) D8.out) D9.out
  have HB9 := Lib.hid hB9
  clear hB9
  clear r0 rm t1 htri n2 n3 n4
  go_loopw [166] (fun i wr => ∃ k : Nat, k ≤ m + 1 ∧ i = .int .i64 k ∧ BeI (w9.drewN d10) L ((betweenL s.1 x y).take k) wr) (fun i _ => m + 1 - (intOf i).toNat)
  case atStart => exact ⟨0, by omega, rfl, by simpa using hI0⟩
  case round =>
    clear hI0
    obtain ⟨k, hk, rfl, hI⟩ := hrel
    have HI := Lib.hid hI
    by_cases hkm : k < m + 1
    · obtain ⟨v, hv⟩ : ∃ v, (betweenL s.1 x y)[k]? = some v := ⟨_, List.getElem?_eq_getElem (by rw [E1.out]; omega)⟩
      have hvL : v < L := by rw [← HLL.out]; exact OKH.out.lt v (List.mem_of_getElem? hv)
      have hvn : v ∉ (betweenL s.1 x y).take k := by
        intro h
        obtain ⟨j, hj⟩ := List.mem_iff_getElem?.1 h
        rw [List.getElem?_take] at hj
        split at hj
        · rename_i hjk
          obtain ⟨l1, q1⟩ := List.getElem?_eq_some_iff.1 hj
          obtain ⟨l2, q2⟩ := List.getElem?_eq_some_iff.1 hv
          have := (List.getElem_inj OKH.out.nodup).1 (q1.trans q2.symm)
          omega
        · cases hj
      have a1 : wr.cell? ⟨g4, k, none⟩ = some (.int .i64 v) := ((Q4.out.drewN d10).below hI.b (Nat.le_refl _)).cell k v hv
      have a2 : wr.cell? ⟨w9.heap.size, v, none⟩ = some (.int .i64 0) := hI.cell hvL hvn
      have a3 : wr.frozen? ⟨w9.heap.size, v, none⟩ = false := hI.frozen v
      have hI2 := hI.set hvL
      have a4 : (wr.setCell ⟨w9.heap.size, v, none⟩ (.int .i64 1)).cell? ⟨g5, m - k, none⟩ = some (.int .i64 v) := by
        refine ((Q5.out.drewN d10).below hI2.b (Nat.le_refl _)).cell (m - k) v ?_
        rw [BKH.out, List.getElem?_reverse (by rw [E1.out]; omega), E1.out, show m + 1 - 1 - (m - k) = k by omega]
        exact hv
      have hT : (betweenL s.1 x y).take (k + 1) = (betweenL s.1 x y).take k ++ [v] := by rw [List.take_add_one, hv]; rfl
      have HT := Lib.hid hT
      have HI2 := Lib.hid hI2
      have h11 : Hist (wr.setCell ⟨w9.heap.size, v, none⟩ (.int .i64 1)) t F s.1 s.2 := (H9.out.drewN d10).stay (Frm.of_below hI2.b (fun _ => False)) (fun _ _ => id)
      have H11 := Lib.hid h11
      have hvs : v < s.1.length := by rw [HLL.out]; exact hvL
      have VS := Lib.hid hvs
      have HV := Lib.hid hv
      clear hI hI2 hv hvn hT hvs h11
      have b0 : (0 : Int) ≤ (k : Int) := by omega
      have b1 : (k : Int) < (m : Int) + 1 := by omega
      have b2 : (0 : Int) ≤ (v : Int) := by omega
      have b3 : (v : Int) < (L : Int) := by omega
      have b4 : (k : Int) ≤ (m : Int) := by omega
      rcases Nat.eq_zero_or_pos k with h0 | h0
      · subst h0
        have a6 : (wr.setCell ⟨w9.heap.size, v, none⟩ (.int .i64 1)).cell? ⟨g5, m, none⟩ = some (.int .i64 v) := a4
        clear a4 b1 b4
        go_wp2_with (fail)
        go_roundw
        case rel => exact ⟨0 + 1, by omega, rfl, by rw [HT.out]; exact HI2.out⟩
        case measure => simp [intOf]
      · obtain ⟨j, rfl⟩ : ∃ j, k = j + 1 := ⟨k - 1, by omega⟩
        obtain ⟨u, hu⟩ : ∃ u, (betweenL s.1 x y)[j]? = some u := ⟨_, List.getElem?_eq_getElem (by rw [E1.out]; omega)⟩
        have hus : u < s.1.length := OKH.out.lt u (List.mem_of_getElem? hu)
        have a5 : (wr.setCell ⟨w9.heap.size, v, none⟩ (.int .i64 1)).cell? ⟨g4, j, none⟩ = some (.int .i64 u) := ((Q4.out.drewN d10).below HI2.out.b (Nat.le_refl _)).cell j u hu
        have hst := OKH.out.step j u v hu HV.out
        have US := Lib.hid hus
        have HU := Lib.hid hu
        have HST := Lib.hid hst
        obtain ⟨r, hr⟩ : ∃ r, r = m - (j + 1) := ⟨_, rfl⟩
        rw [← hr] at a4
        have b5 : (m : Int) - ((j : Int) + 1) = (r : Int) := by omega
        have b6 : (0 : Int) ≤ (r : Int) := by omega
        have b7 : (r : Int) < (m : Int) + 1 := by omega
        have b8 : (j : Int) < (m : Int) + 1 := by omega
        have b9 : (0 : Int) ≤ (j : Int) := by omega
        have b10 : (j : Int) + 1 < (m : Int) + 1 := by omega
        have b11 : ((j + 1 : Nat) : Int) - 1 = (j : Int) := by omega
        clear hu hus hst hr b0 b1 b4 h0 hkm hk
        obtain ⟨P, hP⟩ : ∃ P, parF s.1 u = P := ⟨_, rfl⟩
        obtain ⟨Q, hQ⟩ : ∃ Q, parF s.1 v = Q := ⟨_, rfl⟩
        by_cases hpu : P = v
        · subst hpu
          have HP := Lib.hid hP
          have HQ := Lib.hid hQ
          clear hP hQ
          go_upto_region 25 with (first
            | (go_at_call 24; ((with_reducible refine (entry_p H11.out u US.out (v : Int) HP.out).mono ?_); rintro e w12 ⟨rfl, hB12⟩; have H12 := Lib.hid (fun o => (H11.out.stay (Frm.of_below hB12 (fun _ => False)) (fun _ _ => id)).stay ((Frm.refl (fun _ => False) w12).alloc o) (fun _ _ => id)); have D12 := Lib.hid hB12; clear hB12))
            | (go_at_call 24; ((with_reducible refine (entry_p (H12.out _) v VS.out Q HQ.out).mono ?_); rintro e w13 ⟨rfl, hB13⟩; have D13 := Lib.hid hB13; clear hB13)))
          obtain ⟨o1, ho1⟩ : ∃ o1, o1 = Obj.cells #[.int .i64 (v : Int), .int .i64 (tickF s.1 u), .string (noteF s.1 u), .string (stateF s.1 u)] 45 := ⟨_, rfl⟩
          obtain ⟨o2, ho2⟩ : ∃ o2, o2 = Obj.cells #[.int .i64 Q, .int .i64 (tickF s.1 v), .string (noteF s.1 v), .string (stateF s.1 v)] 45 := ⟨_, rfl⟩
          have hz12 : w12.heap.size < w13.heap.size := by have := D13.out.size; simp at this; omega
          have hI9 : BeI (w9.drewN d10) L ((betweenL s.1 x y).take (j + 1) ++ [v]) (w13.alloc o2) := (((HI2.out.stay D12.out).stay ((Below.refl _ w12).alloc (Nat.le_refl _) _)).stay D13.out).stay ((Below.refl _ w13).alloc (Nat.le_refl _) o2)
          have f1 : (w13.alloc o2).cell? ⟨w12.heap.size, 0, none⟩ = some (.int .i64 (v : Int)) := by
            rw [((Below.refl _ w13).alloc (Nat.le_refl _) o2).cell (p := ⟨w12.heap.size, 0, none⟩) hz12, D13.out.cell (p := ⟨w12.heap.size, 0, none⟩) (by simp)]
            exact blk_cell (blk_new _ _) 0
          have f2 : (w13.alloc o2).cell? ⟨w13.heap.size, 0, none⟩ = some (.int .i64 Q) := by subst ho2; exact blk_cell (blk_new _ _) 0
          have f3 : (w13.alloc o2).cell? ⟨g4, j, none⟩ = some (.int .i64 u) := by
            exact ((Q4.out.drewN d10).below hI9.b (Nat.le_refl _)).cell j u HU.out
          have HI9 := Lib.hid hI9
          clear hI9
          have HZ := Lib.hid hz12
          rw [← ho2]
          have HO1 := Lib.hid ho1
          have HO2 := Lib.hid ho2
          clear ho1 ho2 hz12
          go_quiet (fail)
          go_wp2_with (fail)
          go_roundw
          case rel => exact ⟨j + 1 + 1, by omega, by go_num, by rw [HT.out]; exact HI9.out.stay (below_drewN (Below.refl _ _) nq)⟩
          case measure => simp [intOf]; omega
        · have hq : Q = u := by
            rcases HST.out with h1 | h1
            · exact absurd (hP.symm.trans h1) hpu
            · exact hQ.symm.trans h1
          subst hq
          have HP := Lib.hid hP
          have HQ := Lib.hid hQ
          clear hP hQ
          have q1 : (P == (v : Int)) = false := by simpa using hpu
          have q2 : (P != (v : Int)) = true := by simpa using hpu
          go_upto_region 25 with (first
            | (go_at_call 24; ((with_reducible refine (entry_p H11.out u US.out P HP.out).mono ?_); rintro e w12 ⟨rfl, hB12⟩; have H12 := Lib.hid (fun o => (H11.out.stay (Frm.of_below hB12 (fun _ => False)) (fun _ _ => id)).stay ((Frm.refl (fun _ => False) w12).alloc o) (fun _ _ => id)); have D12 := Lib.hid hB12; clear hB12))
            | (go_at_call 24; ((with_reducible refine (entry_p (H12.out _) v VS.out (u : Int) HQ.out).mono ?_); rintro e w13 ⟨rfl, hB13⟩; have D13 := Lib.hid hB13; clear hB13)))
          obtain ⟨o1, ho1⟩ : ∃ o1, o1 = Obj.cells #[.int .i64 P, .int .i64 (tickF s.1 u), .string (noteF s.1 u), .string (stateF s.1 u)] 45 := ⟨_, rfl⟩
          obtain ⟨o2, ho2⟩ : ∃ o2, o2 = Obj.cells #[.int .i64 (u : Int), .int .i64 (tickF s.1 v), .string (noteF s.1 v), .string (stateF s.1 v)] 45 := ⟨_, rfl⟩
          have hz12 : w12.heap.size < w13.heap.size := by have := D13.out.size; simp at this; omega
          have hI9 : BeI (w9.drewN d10) L ((betweenL s.1 x y).take (j + 1) ++ [v]) (w13.alloc o2) := (((HI2.out.stay D12.out).stay ((Below.refl _ w12).alloc (Nat.le_refl _) _)).stay D13.out).stay ((Below.refl _ w13).alloc (Nat.le_refl _) o2)
          have f1 : (w13.alloc o2).cell? ⟨w12.heap.size, 0, none⟩ = some (.int .i64 P) := by
            rw [((Below.refl _ w13).alloc (Nat.le_refl _) o2).cell (p := ⟨w12.heap.size, 0, none⟩) hz12, D13.out.cell (p := ⟨w12.heap.size, 0, none⟩) (by simp)]
            exact blk_cell (blk_new _ _) 0
          have f2 : (w13.alloc o2).cell? ⟨w13.heap.size, 0, none⟩ = some (.int .i64 (u : Int)) := by subst ho2; exact blk_cell (blk_new _ _) 0
          have f3 : (w13.alloc o2).cell? ⟨g4, j, none⟩ = some (.int .i64 u) := by
            exact ((Q4.out.drewN d10).below hI9.b (Nat.le_refl _)).cell j u HU.out
          have HI9 := Lib.hid hI9
          clear hI9
          have HZ := Lib.hid hz12
          rw [← ho2]
          have HO1 := Lib.hid ho1
          have HO2 := Lib.hid ho2
          clear ho1 ho2 hz12
          go_quiet (fail)
          go_wp2_with (fail)
          go_roundw
          case rel => exact ⟨j + 1 + 1, by omega, by go_num, by rw [HT.out]; exact HI9.out.stay (below_drewN (Below.refl _ _) nq)⟩
          case measure => simp [intOf]; omega
    · have b1 : ¬ ((k : Int) < (m : Int) + 1) := by omega
      go_wp2_with (fail)
      go_ret
      exact ⟨rfl, below_more HB9.out (below_more (below_drewN (Below.refl w9.heap.size w9) d10) HI.out.b)⟩
end Go.Proofs.Ythneinepdbkgeaa
