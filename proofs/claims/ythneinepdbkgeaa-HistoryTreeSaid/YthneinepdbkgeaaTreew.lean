/- The walk of HistoryTree. -/
import Derived.Test.YthneinepdbkgeaaTreef
import Derived.Deep.CutBlock
import Derived.Deep.CutRange
import Derived.Deep.RegionWith
import Derived.Deep.QuietTactic
import Derived.BigQuiet
namespace Go.Proofs.Ythneinepdbkgeaa
open Go.RowKit Go.HK
set_option linter.unusedVariables false
set_option linter.unusedSimpArgs false
set_option linter.unusedSectionVars false
attribute [local go_sem ↓] Go.wp_at_zero Go.wp_at_succ
def strs8 : Array Value := #[.string ⟨#[97]⟩, .string ⟨#[98]⟩, .string ⟨#[99]⟩, .string ⟨#[100]⟩, .string ⟨#[101]⟩, .string ⟨#[102]⟩, .string ⟨#[]⟩, .string ⟨#[110, 111, 110, 101]⟩]
set_option maxRecDepth 100000 in
set_option maxHeartbeats 8000000 in
theorem tree_walk (w : World) (v0 : Value) (hacted : ∀ w', Below w.heap.size w w' → Calls Try.prog 13 #[v0] w' (ActedR w')) : Calls Try.prog 6 #[v0] w (TrueR3 w) := by
  have hmm := @run_makeMap Try.prog
  have HA := Lib.hid hacted
  clear hacted
  go_enter Try.func6, Try.ntmps6
  go_wp2_with (first
    | (go_at_call 12; refine (awake_any _).mono ?_; rintro e w1 ⟨rfl, hB1⟩)
    | (go_at_call 13; refine (HA.out _ hB1).mono ?_; rintro e w2 ⟨t, F, s, m0, NS, SS, p, q, rfl, hW, hAc, hL, hm0, hm1⟩))
  have HB2 := Lib.hid (hB1.trans (hW.b.mono hB1.size))
  have hI0 : TrI w2 t F s (idxP s.1 0) (w2.alloc (.map #[] 0)) := TrI.start hW.h
  have HWF := Lib.hid hW.h.1
  have HAC := Lib.hid hAc
  obtain ⟨N, hN⟩ : ∃ N, s.1.length = N := ⟨_, rfl⟩
  have hN0 : 0 < N := by have := hW.h.1.pos; omega
  have hN1 : N ≤ 1000 := by have := hW.h.1.le; omega
  have HN := Lib.hid hN
  clear hW hAc hL hm0 hm1 hB1 hN
  go_loopw [7, 9] (fun cnt i wr => ∃ k : Nat, k ≤ N ∧ i = .int .i64 k ∧ cnt = .int .i64 (cntP s.1 k) ∧ TrI w2 t F s (idxP s.1 k) wr) (fun _ i _ => N - (intOf i).toNat)
  case atStart => exact ⟨0, by omega, rfl, by rw [cntP_zero]; rfl, hI0⟩
  case round =>
    clear hI0 hmm
    obtain ⟨k, hk, rfl, rfl, hI⟩ := hrel
    have HI := Lib.hid hI
    clear hI
    by_cases hkN : k < N
    · have d1 : decide (k < N) = true := decide_eq_true hkN
      have hks : k < s.1.length := by rw [HN.out]; exact hkN
      obtain ⟨P, hP⟩ : ∃ P, parF s.1 k = P := ⟨_, rfl⟩
      obtain ⟨T, hT⟩ : ∃ T, tickF s.1 k = T := ⟨_, rfl⟩
      obtain ⟨M, hM⟩ : ∃ M, noteF s.1 k = M := ⟨_, rfl⟩
      obtain ⟨S, hS⟩ : ∃ S, stateF s.1 k = S := ⟨_, rfl⟩
      obtain ⟨nw, hnw⟩ : ∃ nw, (wayL s.1 k).length = nw + 1 := ⟨(wayL s.1 k).length - 1, by have := wayL_pos HWF.out hks; omega⟩
      have hnw1 : nw ≤ 1000 := by have := upL_len HWF.out hks; simp [wayL] at hnw; omega
      have HKS := Lib.hid hks
      have HP := Lib.hid hP
      have HT := Lib.hid hT
      have HM := Lib.hid hM
      have HS := Lib.hid hS
      have HNW := Lib.hid hnw
      have hlast := wayL_last HWF.out hks
      rw [hnw] at hlast
      have HLAST := Lib.hid hlast
      obtain ⟨es, clock, gs, hG⟩ := HI.out.g
      have HG := Lib.hid hG
      have b0 : (0 : Int) ≤ (k : Int) := by omega
      have b1 : (0 : Int) ≤ (nw : Int) := by omega
      clear hks hP hT hM hS hnw hlast hG
      have hent := entry_yes HI.out.h k HKS.out
      rw [HP.out, HT.out, HM.out, HS.out] at hent
      have HENT := Lib.hid hent
      clear hent
      go_upto_region 16 with (first
        | (go_at_call 20; ((with_reducible refine (len_lit N HN.out HI.out.h).mono ?_); rintro e w3 ⟨rfl, rfl⟩))
        | (go_at_call 24; ((with_reducible refine HENT.out.mono ?_); rintro e w4 ⟨rfl, hB4⟩; have H4 := Lib.hid (fun o => ((HI.out.stay hB4).stay ((Below.refl _ w4).alloc (Nat.le_refl _) o)).h); have D4 := Lib.hid hB4; clear hB4))
        | (go_at_call 25; ((with_reducible refine (children_yes (H4.out _) k HKS.out).mono ?_); rintro e w5 ⟨vc, rfl, hrc, hB5⟩; have R5 := Lib.hid hrc; have D5 := Lib.hid hB5; have H5 := Lib.hid ((H4.out _).stay (Frm.of_below hB5 (fun _ => False)) (fun _ _ => id)); clear hrc hB5))
        | (go_at_call 22; ((with_reducible refine (way_p H5.out k nw HKS.out HNW.out).mono ?_); rintro e w6 ⟨gw, cw, rfl, hr6, hg6, hB6⟩; have c6 : w6.cell? ⟨gw, nw, none⟩ = some (.int .i64 k) := hr6.cell nw k (by simpa using HLAST.out); have R6 := Lib.hid hr6; have D6 := Lib.hid hB6; have G6 := Lib.hid hg6; clear hr6 hg6 hB6)))
      obtain ⟨kn, hkn⟩ : ∃ kn, (kidsOf s.1 k).length = kn := ⟨_, rfl⟩
      have hshape := own_shape R5.out
      rw [hkn] at hshape
      obtain ⟨ca, cc, hvc⟩ := hshape
      subst hvc
      have hkn1 : kn ≤ N := by have := kidsOf_len s.1 k; rw [HN.out] at this; omega
      have HKN := Lib.hid hkn
      clear hkn
      have hz4 : wr.heap.size ≤ w4.heap.size := D4.out.size
      have hz5 : w4.heap.size < w5.heap.size := by have := D5.out.size; simp at this; omega
      have hz6 : w5.heap.size ≤ w6.heap.size := D6.out.size
      have hJ : TrJ w2 t F s (idxP s.1 k) w4.heap.size #[.int .i64 P, .int .i64 T, .string M, .string S] (.slice ca kn cc) (kidsOf s.1 k) gw (nw + 1) (wayL s.1 k) w6 := by
        refine ⟨(((HI.out.stay D4.out).stay ((Below.refl _ w4).alloc (Nat.le_refl _) _)).stay D5.out).stay D6.out, ?_, ?_, R6.out⟩
        · exact (D6.out.block _ hz5).trans ((D5.out.block _ (by simp)).trans (blk_new w4 _))
        · refine (Frm.of_below D6.out (fun _ => False)).owns (owns_mono R5.out ?_) (fun _ _ => id)
          have := HI.out.b.size
          simp; omega
      have hB0 : Below wr.heap.size wr w6 := (((D4.out.alloc D4.out.size _).trans (D5.out.mono (by simp; omega))).trans (D6.out.mono (by omega)))
      have hvc0 : ∀ g, (Value.slice ca kn cc).ownBlock = some g → wr.heap.size ≤ g := fun g hg => by
        have := own_ge R5.out g hg
        simp at this; omega
      have hgw0 : wr.heap.size ≤ gw := by have := G6.out; omega
      have x3 : w6.cell? ⟨w4.heap.size, 3, none⟩ = some (.string S) := blk_cell hJ.x 3
      obtain ⟨u, hu⟩ : ∃ u, (gget gs S).getD (.slice none 0 0) = u := ⟨_, rfl⟩
      have hGc := HG.out.stay hB0
      have hl1 : (Instr.lookup 54 (.map (some w2.heap.size)) (.string S) false).run Try.prog w6.drew = .ok u w6.drew := by rw [← hu]; exact lookup54 _ (blk_drew hGc.hM) hGc.hMI
      have hl2 : ∀ o, (Instr.lookup 54 (.map (some w2.heap.size)) (.string S) false).run Try.prog (w6.alloc o).drew = .ok u (w6.alloc o).drew := fun o => by rw [← hu]; exact lookup54 _ (blk_drew (blk_alloc hGc.hM o)) hGc.hMI
      have hown0 : w6.ownsRow 0 3 1 u (idxP s.1 k S).length (ints (idxP s.1 k S)) := by rw [← hu]; exact owns_mono (hGc.grp S) (Nat.zero_le _)
      have um : u.ownBlock ≠ some w2.heap.size := by rw [← hu]; exact hGc.nm S
      have ux : u.ownBlock ≠ some w4.heap.size := fun e => by
        rw [← hu] at e
        have := own_lt (HG.out.grp S) _ e
        omega
      have xm : w4.heap.size ≠ w2.heap.size := by have := HI.out.b.size; have := blk_lt HG.out.hM; omega
      have xs := blk_lt hJ.x
      have hxl := idxP_len s.1 k S
      have Hu := Lib.hid hu
      have HJ := Lib.hid hJ
      have HB0 := Lib.hid hB0
      have HVC := Lib.hid hvc0
      have HGW := Lib.hid hgw0
      have HGC := Lib.hid hGc
      have HZ4 := Lib.hid hz4
      clear hu hJ hB0 hvc0 hgw0 hGc hz5 hz6 hz4 c6
      go_cut [] from 36 to 176 (fun wx => TrJ w2 t F s (idxP s.1 (k + 1)) w4.heap.size #[.int .i64 P, .int .i64 T, .string M, .string S] (.slice ca kn cc) (kidsOf s.1 k) gw (nw + 1) (wayL s.1 k) wx)
      case first =>
        go_region_held3 (fun w' => w'.cell? ⟨w4.heap.size, 3, none⟩ = some (.string S))
          (first
            | assumption
            | go_keep
            | (rw [hgrow.cell_far _ (by simp; omega) (Ne.symm ux)]; assumption)
            | (rw [cell_putObj xm]; assumption))
          ((refine step_app1 (by rfl) elem25 _ _ (by rfl) u (idxP s.1 k S).length (ints (idxP s.1 k S)) (by rfl) (hown0.alloc _).drew w6.heap.size 1 #[.int .i64 k] (by rfl) (heap_alloc_new _ _) (by rfl) (by simp [Value.oneCell']) (by simp only [maxLen]; omega) (by omega) ?_
            intro gg cap w7 hown1 hgrow hat hlt
            obtain ⟨es', clock', hmu, hmi⟩ := update54 S (.slice (some ⟨gg, 0, none⟩) ((idxP s.1 k S).length + 1) cap) (blk_grown2 hgrow (blk_drew (blk_alloc HGC.out.hM _)) (Ne.symm um)) HGC.out.hMI))
        all_goals (
          go_wp2_with (fail)
          go_meet
          case rel =>
            rw [idxP_succ, HS.out]
            exact tr_file (n := k) HG.out HB0.out HJ.out HZ4.out HVC.out HGW.out (by rw [Hu.out]; exact hgrow) hown1 (by rw [Hu.out]; exact hat) hmi)
      case rest =>
        clear hl1 hl2 hown0 um ux xm xs hxl x3 HJ HB0 HVC HGC HGW Hu
        have HJ := Lib.hid hcut
        have e0 : wc.cell? ⟨w4.heap.size, 0, none⟩ = some (.int .i64 P) := blk_cell hcut.x 0
        have e1 : wc.cell? ⟨w4.heap.size, 1, none⟩ = some (.int .i64 T) := blk_cell hcut.x 1
        have e2 : wc.cell? ⟨w4.heap.size, 2, none⟩ = some (.string M) := blk_cell hcut.x 2
        have e3 : wc.cell? ⟨w4.heap.size, 3, none⟩ = some (.string S) := blk_cell hcut.x 3
        have hxc := blk_lt hcut.x
        have hc1 := cntP_le (nodes := s.1) (k + 1)
        rw [HN.out, cntP_succ, HKN.out] at hc1
        clear hcut
        go_wp2_with (fail)
        go_loopw [93] (fun i wx => ∃ j : Nat, j ≤ kn ∧ i = .int .i64 j ∧ Below wc.heap.size wc wx) (fun i _ => kn - (intOf i).toNat)
        case atStart => exact ⟨0, by omega, rfl, Below.refl _ _⟩
        case round =>
          obtain ⟨wo, rfl⟩ : ∃ wo : World, wo = wr := ⟨_, rfl⟩
          obtain ⟨j, hj, rfl, hBx⟩ := hrel
          have HBX := Lib.hid hBx
          clear hBx
          by_cases hjk : j < kn
          · have hJo := Lib.hid (HJ.out.stay HBX.out)
            obtain ⟨gk, hgk⟩ : ∃ gk, ca = some ⟨gk, 0, none⟩ := by
              have h1 := HJ.out.c
              rw [HKN.out] at h1
              obtain ⟨gk, ck, e, _⟩ := h1.form (by omega)
              injection e with e1
              exact ⟨gk, e1⟩
            subst hgk
            have hro : RowAt wo gk kn (kidsOf s.1 k) := RowAt.of (by have h1 := hJo.out.c; rw [HKN.out] at h1; exact h1) HKN.out
            obtain ⟨c, hc⟩ : ∃ c, (kidsOf s.1 k)[j]? = some c := ⟨_, List.getElem?_eq_getElem (by rw [HKN.out]; exact hjk)⟩
            have hcs := kidsOf_at hc
            have cj := hro.cell j c hc
            have hent := entry_p hJo.out.i.h c hcs.1 k hcs.2
            obtain ⟨TC, hTC⟩ : ∃ TC, tickF s.1 c = TC := ⟨_, rfl⟩
            obtain ⟨MC, hMC⟩ : ∃ MC, noteF s.1 c = MC := ⟨_, rfl⟩
            obtain ⟨SC, hSC⟩ : ∃ SC, stateF s.1 c = SC := ⟨_, rfl⟩
            rw [hTC, hMC, hSC] at hent
            have HENC := Lib.hid hent
            have hck : k < c := by
              have := HWF.out.par' c hcs.1
              rw [hcs.2] at this
              omega
            have hup := HAC.out.up c (by omega) hcs.1
            rw [hcs.2, Int.toNat_natCast, hSC, hTC, HS.out, HT.out] at hup
            have s1 : (SC.toList == S.toList) = false := bytes_ne (fun e => hup.1 e.symm)
            have s2 : ¬ (TC < T) := by have := hup.2; omega
            have s3 : decide (c ≤ k) = false := decide_eq_false (by omega)
            have d2 : decide (j < kn) = true := decide_eq_true hjk
            have a0 : (0 : Int) ≤ (j : Int) := by omega
            have a1 : (j : Int) < (kn : Int) := by omega
            have HC := Lib.hid hc
            have HRO := Lib.hid hro
            clear hent hTC hMC hSC hcs hup hc hro
            rcases Nat.eq_zero_or_pos j with h0 | h0
            · subst h0
              go_wp2_with (
                go_at_call 24
                (with_reducible refine HENC.out.mono ?_)
                rintro e w8 ⟨rfl, hB8⟩
                have hJ8 := fun o => (hJo.out.stay hB8).stay ((Below.refl _ w8).alloc (Nat.le_refl _) o)
                have y1 : ∀ o, (w8.alloc o).cell? ⟨w4.heap.size, 1, none⟩ = some (.int .i64 T) := fun o => blk_cell (hJ8 o).x 1
                have y3 : ∀ o, (w8.alloc o).cell? ⟨w4.heap.size, 3, none⟩ = some (.string S) := fun o => blk_cell (hJ8 o).x 3
                have D8 := Lib.hid hB8
                clear hB8 hJ8)
              go_roundw
              case rel => exact ⟨0 + 1, by omega, by go_num, (HBX.out.trans (D8.out.mono HBX.out.size)).alloc (by have := HBX.out.size; have := D8.out.size; omega) _⟩
              case measure => simp [intOf]; omega
            · obtain ⟨i, rfl⟩ : ∃ i, j = i + 1 := ⟨j - 1, by omega⟩
              obtain ⟨d, hd⟩ : ∃ d, (kidsOf s.1 k)[i]? = some d := ⟨_, List.getElem?_eq_getElem (by rw [HKN.out]; omega)⟩
              have hdc := kidsOf_next hd HC.out
              have s4 : decide (c ≤ d) = false := decide_eq_false (by omega)
              have s5 : ((i + 1 : Nat) : Int) - 1 = (i : Int) := by omega
              have a2 : (0 : Int) ≤ (i : Int) := by omega
              have a3 : (i : Int) < (kn : Int) := by omega
              have HD := Lib.hid hd
              clear hd hdc
              go_wp2_with (
                go_at_call 24
                (with_reducible refine HENC.out.mono ?_)
                rintro e w8 ⟨rfl, hB8⟩
                have hJ8 := fun o => (hJo.out.stay hB8).stay ((Below.refl _ w8).alloc (Nat.le_refl _) o)
                have y1 : ∀ o, (w8.alloc o).cell? ⟨w4.heap.size, 1, none⟩ = some (.int .i64 T) := fun o => blk_cell (hJ8 o).x 1
                have y3 : ∀ o, (w8.alloc o).cell? ⟨w4.heap.size, 3, none⟩ = some (.string S) := fun o => blk_cell (hJ8 o).x 3
                have y5 : ∀ o, (w8.alloc o).cell? ⟨gk, i, none⟩ = some (.int .i64 d) := fun o => by have h1 := (hJ8 o).c; rw [HKN.out] at h1; exact (RowAt.of h1 HKN.out).cell i d HD.out
                have D8 := Lib.hid hB8
                clear hB8 hJ8)
              go_roundw
              case rel => exact ⟨i + 1 + 1, by omega, by go_num, (HBX.out.trans (D8.out.mono HBX.out.size)).alloc (by have := HBX.out.size; have := D8.out.size; omega) _⟩
              case measure => simp [intOf]; omega
          · have d2 : decide (j < kn) = false := decide_eq_false hjk
            have hJo := HJ.out.stay HBX.out
            have f0 : wo.cell? ⟨w4.heap.size, 0, none⟩ = some (.int .i64 P) := blk_cell hJo.x 0
            have f1 : wo.cell? ⟨w4.heap.size, 1, none⟩ = some (.int .i64 T) := blk_cell hJo.x 1
            have f2 : wo.cell? ⟨w4.heap.size, 2, none⟩ = some (.string M) := blk_cell hJo.x 2
            have f3 : wo.cell? ⟨w4.heap.size, 3, none⟩ = some (.string S) := blk_cell hJo.x 3
            have HJO := Lib.hid hJo
            have hcs : ((cntP s.1 k : Nat) : Int) + (kn : Int) = ((cntP s.1 (k + 1) : Nat) : Int) := by rw [cntP_succ, HKN.out]; omega
            have HCS := Lib.hid hcs
            clear e0 e1 e2 e3 hJo hcs
            rcases Nat.eq_zero_or_pos k with hk0 | hk0
            · subst hk0
              obtain rfl : P = -1 := by rw [← HP.out]; exact HWF.out.root
              obtain rfl : T = 0 := by rw [← HT.out]; exact HAC.out.rt
              obtain rfl : M = ⟨#[]⟩ := by rw [← HM.out]; exact HAC.out.rn
              obtain rfl : S = ⟨#[97]⟩ := by rw [← HS.out]; exact HAC.out.rs
              obtain rfl : nw = 0 := by have := HNW.out; rw [wayL_zero1 HWF.out] at this; simpa using this.symm
              go_wp2_with (fail)
              go_roundw
              case rel => exact ⟨0 + 1, by omega, by go_num, by rw [HCS.out], HJO.out.i⟩
              case measure => simp [intOf]; omega
            · obtain ⟨pp, hpp⟩ : ∃ pp : Nat, P = pp := ⟨P.toNat, by have := HWF.out.par k hk0 HKS.out; rw [HP.out] at this; omega⟩
              subst hpp
              have k0 : ¬ ((k : Int) = 0) := by omega
              have hpar := HWF.out.par k hk0 HKS.out
              rw [HP.out] at hpar
              have hpl : pp < s.1.length := by have := HKS.out; omega
              have hway : wayL s.1 k = wayL s.1 pp ++ [k] := by
                have := wayL_step HWF.out HKS.out (by omega)
                rw [HP.out, Int.toNat_natCast] at this
                exact this
              have HBXo := Lib.hid (Below.refl wo.heap.size wo)
              have HPL := Lib.hid hpl
              have HWAY := Lib.hid hway
              have hun : (wayL s.1 pp).length = nw := by have := HNW.out; rw [hway] at this; simpa using this
              have HUN := Lib.hid hun
              have hup := way_yes HJO.out.i.h pp HPL.out
              unfold RetI at hup
              rw [hun] at hup
              have HUP := Lib.hid hup
              clear hpar hpl hway hun hup
              go_wp2_with (first
                | (go_at_call 22; ((with_reducible refine HUP.out.mono ?_); rintro e w9 ⟨v9, rfl, hr9, hB9⟩; have R9 := Lib.hid hr9; have D9 := Lib.hid hB9; clear hr9 hB9))
                | (at_builtin
                   refine wpList_app1g (by rfl) elem25 _ _ rfl v9 nw (ints (wayL s.1 pp)) rfl (owns_mono (R9.out.alloc _) (Nat.zero_le _)) w9.heap.size 1 #[.int .i64 k] rfl (blk_new w9 _) rfl (by simp [Value.oneCell']) (by simp only [maxLen]; omega) (by omega) ?_
                   intro gg cap wa hown1 hgrow hat hlt
                   have hra : RowAt wa gg (nw + 1) (wayL s.1 k) := RowAt.of (by rw [HWAY.out, ints_append]; exact hown1) HNW.out
                   have HRA := Lib.hid hra
                   have hgb : Below wo.heap.size wo wa := ((HBXo.out.trans D9.out).alloc D9.out.size _).grown hgrow (by have := D9.out.size; simp; omega) (fun g e => own_ge R9.out g e)
                   have HGB := Lib.hid hgb
                   clear hra hown1 hgrow hat hlt hgb)
                | (go_at_call 23; ((with_reducible refine (same_yes wa gg cap gw cw (nw + 1) (wayL s.1 k) (by omega) HRA.out.nums ((HJO.out.y.below' HGB.out).nums) HNW.out.symm).mono ?_); rintro e wb ⟨rfl, db, rfl⟩)))
              go_roundw
              case rel => exact ⟨k + 1, by omega, by go_num, by rw [HCS.out], (HJO.out.i.stay HGB.out).stay (below_drewN (Below.refl _ _) db)⟩
              case measure => simp [intOf]; omega
    · have d1 : decide (k < N) = false := decide_eq_false hkN
      obtain ⟨we, rfl⟩ : ∃ we : World, we = wr := ⟨_, rfl⟩
      obtain rfl : k = N := by omega
      have hcn := cntP_all HWF.out
      rw [HN.out] at hcn
      obtain ⟨es, clock, gs, hG⟩ := HI.out.g
      have hix : idxP s.1 k = idxOf s.1 := by rw [← HN.out]; exact idxP_all s.1
      rw [hix] at hG
      have HG := Lib.hid hG
      have hcn2 : ((cntP s.1 k : Nat) : Int) = (k : Int) - 1 := by omega
      have HCN := Lib.hid hcn2
      clear hG hix hcn hcn2
      go_wp2_with (go_at_call 20; ((with_reducible refine (len_lit k HN.out HI.out.h).mono ?_); rintro e w3 ⟨rfl, rfl⟩))
      go_loopw [179] (fun i wx => ∃ j : Nat, j ≤ 8 ∧ i = .int .i64 j ∧ Below (we.alloc (.cells strs8 9)).heap.size (we.alloc (.cells strs8 9)) wx) (fun i _ => 8 - (intOf i).toNat)
      case atStart => exact ⟨0, by omega, rfl, Below.refl _ _⟩
      case round =>
        obtain ⟨j, hj, rfl, hBx⟩ := hrel
        have hB2 : Below we.heap.size we wr := ((Below.refl _ we).alloc (Nat.le_refl _) _).trans (hBx.mono (by simp))
        have hcell : ∀ i, wr.cell? ⟨we.heap.size, i, none⟩ = strs8[i]? := fun i => (hBx.cell (p := ⟨we.heap.size, i, none⟩) (by simp)).trans (blk_cell (blk_new we _) i)
        have hIx := HI.out.stay hB2
        have HIX := Lib.hid hIx
        have HBX := Lib.hid hBx
        have HB3 := Lib.hid hB2
        by_cases hj8 : j < 8
        · obtain ⟨S, hS⟩ : ∃ S, strs8[j]? = some (.string S) := by
            have : j = 0 ∨ j = 1 ∨ j = 2 ∨ j = 3 ∨ j = 4 ∨ j = 5 ∨ j = 6 ∨ j = 7 := by omega
            rcases this with rfl | rfl | rfl | rfl | rfl | rfl | rfl | rfl <;> exact ⟨_, rfl⟩
          have c1 : wr.cell? ⟨we.heap.size, j, none⟩ = some (.string S) := (hcell j).trans hS
          have b0 : (0 : Int) ≤ (j : Int) := by omega
          have b1 : (j : Int) < 8 := by omega
          obtain ⟨u, hu⟩ : ∃ u, (gget gs S).getD (.slice none 0 0) = u := ⟨_, rfl⟩
          have hGr := HG.out.stay hB2
          have hl : ∀ w', Below wr.heap.size wr w' → (Instr.lookup 54 (.map (some w2.heap.size)) (.string S) false).run Try.prog w' = .ok u w' := fun w' hb => by
            rw [← hu]; exact lookup54 _ (hGr.stay hb).hM (hGr.stay hb).hMI
          have hl1 := hl wr.drew (Below.refl _ wr).drew
          have hown : wr.ownsRow w2.heap.size 3 1 u (idxOf s.1 S).length (ints (idxOf s.1 S)) := by rw [← hu]; exact hGr.grp S
          have hlen : (idxOf s.1 S).length ≤ 2000 := by have := idxOf_len s.1 S; rw [HN.out] at this; omega
          have HL := Lib.hid hl
          have HOWN := Lib.hid hown
          have HLEN := Lib.hid hlen
          clear hu hGr hl hS hcell hBx hB2 hIx hown hlen
          have hfd := find_state (HIX.out.h.drew) S
          have HFD := Lib.hid hfd
          clear hfd
          go_wp2_with (fail)
          go_region_with (first
            | (go_at_call 26; ((with_reducible refine HFD.out.mono ?_); rintro e wf ⟨vf, rfl, hrf, hBf⟩; have hBw := (Below.refl wr.heap.size wr).drew.trans hBf; have hl2 := HL.out wf hBw; have RF := Lib.hid hrf; have BW := Lib.hid hBw; clear hrf hBf hBw))
            | (go_at_call 23; (refine (same_own _ vf u _ _ (idxOf s.1 S) HLEN.out RF.out ((Frm.of_below BW.out (fun _ => False)).owns HOWN.out (fun _ _ => id))).mono ?_; rintro e wg ⟨rfl, dg, rfl⟩)))
          all_goals (
            simp only [Exit.inBlock, Exit.then]
            go_simp
            go_wp2_with (fail)
            go_roundw
            case rel => exact ⟨j + 1, by omega, by go_num, below_drewN (HBX.out.trans (BW.out.mono HBX.out.size)) dg⟩
            case measure => simp [intOf]; omega)
        · have b1 : ¬ ((j : Int) < 8) := by omega
          clear hcell hBx hB2 hIx
          have hc := HCN.out
          go_wp2_with (go_at_call 20; ((with_reducible refine (len_lit k HN.out HIX.out.h).mono ?_); rintro e w3 ⟨rfl, rfl⟩))
          go_ret
          exact ⟨rfl, below_more HB2.out (HI.out.b.trans (HB3.out.mono HI.out.b.size))⟩
end Go.Proofs.Ythneinepdbkgeaa
