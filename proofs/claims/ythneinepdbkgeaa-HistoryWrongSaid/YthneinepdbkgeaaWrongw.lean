/- The walk of HistoryWrong. -/
import Derived.Test.YthneinepdbkgeaaWrongp
import Derived.Test.YthneinepdbkgeaaSavep
import Derived.Deep.CutBlock
import Derived.Deep.CutRange
import Derived.Deep.RegionWith
import Derived.Deep.QuietTactic
import Derived.BigQuiet
namespace Go.Proofs.Ythneinepdbkgeaa
open Go.RowKit Go.HK
set_option linter.unusedVariables false
set_option linter.unusedSimpArgs false
set_option linter.unusedSectionVars false
def TrueR5 (w : World) (e : Ending) (w' : World) : Prop := e = .returned (.bool true) ∧ Below w.heap.size w w'
theorem short_acts' {nodes : List Go.HK.HN} {k : Nat} {NS : List Nat} {SS : List ByteArray} (ha : Ac k nodes NS SS) : Short (ents nodes) := fun j y hj => by
  have hjl := (List.getElem?_eq_some_iff.1 hj).1
  rw [ents_len] at hjl
  rw [ents_get hjl] at hj
  cases hj
  have := ha.sz j hjl
  exact ⟨by simp only [entF]; omega, ha.sn j hjl⟩
/-- The tree, and the entries that were saved. -/
structure WrI (w : World) (t : Nat) (F : List Nat) (s : HS) (gv n1 cv : Nat) (wr : World) : Prop where
  h : Hist wr t F s.1 s.2
  b : Below w.heap.size w wr
  e : EntsAt wr gv (ents s.1)
  n : n1 = (ents s.1).length
theorem WrI.stay {w wr w' : World} {t : Nat} {F : List Nat} {s : HS} {gv n1 cv : Nat} (h : WrI w t F s gv n1 cv wr) (hB : Below wr.heap.size wr w') : WrI w t F s gv n1 cv w' :=
  ⟨h.h.stay (Frm.of_below hB (fun _ => False)) (fun _ _ => id), h.b.trans (hB.mono h.b.size), h.e.below hB (Nat.le_refl _), h.n⟩
/-- .. and two numbers that no entry has. -/
def WrS (w : World) (t : Nat) (F : List Nat) (s : HS) (gv n1 cv L : Nat) (a : Value) (wr : World) : Prop :=
  ∃ B k1 k2, a = .slice (some ⟨B, 0, none⟩) 2 2 ∧ wr.heap[B]? = some (.cells #[.int .i64 k1, .int .i64 k2] 3 (0, 0)) ∧ ¬ (0 ≤ k1 ∧ k1 < (L : Int)) ∧ ¬ (0 ≤ k2 ∧ k2 < (L : Int)) ∧ WrI w t F s gv n1 cv wr
theorem tick_pos {nodes : List Go.HK.HN} {now k : Nat} {NS : List Nat} {SS : List ByteArray} (h : WF nodes now) (ha : Ac k nodes NS SS) : ∀ x, x < nodes.length → 0 ≤ tickF nodes x := by
  intro x
  induction x using Nat.strongRecOn with
  | _ x ih =>
    intro hx
    by_cases h0 : x = 0
    · subst h0; rw [ha.rt]; omega
    · have hp := h.par x (by omega) hx
      have hu := ha.up x (by omega) hx
      have := ih (parF nodes x).toNat (by omega) (by omega)
      omega
set_option maxRecDepth 100000 in
set_option maxHeartbeats 16000000 in
theorem wrong_walk (w : World) (v0 : Value) (hacted : ∀ w', Below w.heap.size w w' → Calls Try.prog 13 #[v0] w' (ActedR w')) (n : Int) (hn0 : -9223372036854775808 ≤ n) (hn1 : n ≤ 9223372036854775807) : Calls Try.prog 11 #[v0, .int .i64 n] w (TrueR5 w) := by
  have HA := Lib.hid hacted
  clear hacted
  obtain ⟨N, hN⟩ : ∃ N : Nat, N = 16385 := ⟨_, rfl⟩
  have hmk := zeros_make N (by omega)
  rw [show ((N : Nat) : Int) = 16385 by omega] at hmk
  have hcv := zeros_conv N
  have hzs := zeros_size N
  obtain ⟨LS, hLS⟩ : ∃ LS, zeros N = LS := ⟨_, rfl⟩
  rw [hLS] at hcv hzs
  have hls : (LS.size : Int) = 16385 := by omega
  have hlm : LS.size ≤ maxLen := by unfold maxLen; omega
  have HLM := Lib.hid hlm
  have HZS := Lib.hid (show LS.size = 16385 by omega)
  clear hLS hN hzs hlm
  go_enter Try.func11, Try.ntmps11
  go_upto_region 7 with (first
    | (go_at_call 12; refine (awake_any _).mono ?_; rintro e w1 ⟨rfl, hB1⟩)
    | (go_at_call 13; refine (HA.out _ hB1).mono ?_; rintro e w2 ⟨t, F, s, m0, NS, SS, p, q, rfl, hW, hAc, hL, hm0, hm1⟩))
  obtain ⟨w3, hw3⟩ : ∃ w3, w3 = w2.alloc (.cells (madeCells #[.int .u8 0] N) 5) := ⟨_, rfl⟩
  have hB23 : Below w2.heap.size w2 w3 := by rw [hw3]; exact (Below.refl _ w2).alloc (Nat.le_refl _) _
  rw [← hw3]
  have HW3 := Lib.hid hw3
  have H3 := Lib.hid (hW.stay hB23).h
  have HB3 := Lib.hid ((hB1.trans (hW.b.mono hB1.size)).trans (hB23.mono (by have := hW.b.size; have := hB1.size; omega)))
  have HWF := Lib.hid hW.h.1
  have HAC := Lib.hid hAc
  obtain ⟨T, hT⟩ : ∃ T, tickF s.1 s.2 = T := ⟨_, rfl⟩
  have ht60 := hAc.tick s.2 hW.h.1.now
  rw [hT] at ht60
  have hT0 : 0 ≤ T := by rw [← hT]; exact tick_pos hW.h.1 hAc s.2 hW.h.1.now
  have hent := fun (w' : World) (hb : Below w3.heap.size w3 w') => entry_yes ((hW.stay hB23).stay hb).h s.2 hW.h.1.now
  rw [hT] at hent
  have HENT := Lib.hid hent
  have HTT := Lib.hid hT
  have hsz := hAc.sz s.2 hW.h.1.now
  have HSZ := Lib.hid hsz
  obtain ⟨n1, hn1'⟩ : ∃ n1, n1 = (ents s.1).length := ⟨_, rfl⟩
  have hn1p : 0 < n1 := by rw [hn1', ents_len]; exact hW.h.1.pos
  have hn1b : n1 ≤ 1000 := by rw [hn1', ents_len]; exact hW.h.1.le
  have hsv := save_any H3.out
  unfold RetV at hsv
  rw [← hn1'] at hsv
  have HSV := Lib.hid hsv
  have HN1 := Lib.hid hn1'
  clear hW hAc hL hm0 hm1 hB1 hB23 hw3 hT hent hsz hsv hn1' hmk hcv
  go_upto_region 12 with (first
    | (go_at_call 19; ((with_reducible refine HSV.out.mono ?_); rintro e w4 ⟨v, rfl, hv, hB4⟩; obtain ⟨gv, cv, rfl, _⟩ := hv.form hn1p; have HE4 := Lib.hid (EntsAt.of hv HN1.out); have HB4 := Lib.hid hB4; clear hv hB4))
    | (go_at_call 14; ((with_reducible refine (now_any (H3.out.stay (Frm.of_below HB4.out (fun _ => False)) (fun _ _ => id))).mono ?_); rintro e w5 ⟨rfl, hB5⟩; have HE5 := Lib.hid (HE4.out.below hB5 (Nat.le_refl _)); have HB5 := Lib.hid (HB4.out.trans (hB5.mono HB4.out.size)); clear hB5))
    | (go_at_call 24
       (with_reducible refine (HENT.out w5 HB5.out).mono ?_)
       rintro e w6 ⟨rfl, hB6⟩
       have HE6 := Lib.hid (fun o => (HE5.out.below hB6 (Nat.le_refl _)).below ((Below.refl _ w6).alloc (Nat.le_refl _) o) (Nat.le_refl _))
       have HB6 := Lib.hid (HB5.out.trans (hB6.mono HB5.out.size))
       clear hB6
       have HB7 := Lib.hid (fun o => HB6.out.alloc HB6.out.size o)
       have H7 := Lib.hid (fun o => H3.out.stay (Frm.of_below (HB7.out o) (fun _ => False)) (fun _ _ => id)))
    | (go_at_call 35; (refine (new_no _ LS HLM.out (by rw [HZS.out]; omega)).mono ?_; rintro e w7 ⟨rfl, rfl⟩))
    | (go_at_call 17; (refine (do_long (H7.out _) LS ⟨#[]⟩ 1000 HLM.out (by decide) (.inl (by rw [HZS.out]; omega))).mono ?_; rintro e w8 ⟨rfl, rfl⟩)))
  have hxs : (LS.extract 0 101).size = 101 := by rw [ByteArray.size_extract, HZS.out]; rfl
  have HXS := Lib.hid hxs
  obtain ⟨L, hL⟩ : ∃ L, s.1.length = L := ⟨_, rfl⟩
  have hL0 : 0 < L := by have := HWF.out.pos; omega
  have hL1 : L ≤ 1000 := by have := HWF.out.le; omega
  have HL := Lib.hid hL
  have HT9 := Lib.hid (show ¬ (1000 < T) by omega)
  clear hxs hL
  go_upto_region 13 with (go_at_call 17; ((with_reducible refine (do_long (H7.out _) ⟨#[110, 101, 119]⟩ (LS.extract 0 101) 1000 (by decide) (by rw [HXS.out]; decide) (.inr (by rw [HXS.out]; decide))).mono ?_); rintro e w8 ⟨rfl, rfl⟩))
  have hT1 : 0 ≤ T := hT0
  go_cut [22, 23] from 113 (fun a b wx => a = .int .i64 0 ∧ b = .int .i64 2 ∧ WrI w t F s gv n1 cv wx)
  case first => as_aux_lemma =>
    go_wp2_with (go_at_call 17; ((with_reducible refine (do_early (H7.out _) ⟨#[110, 101, 119]⟩ ⟨#[]⟩ _ (by decide) (by decide) (by rw [HTT.out]; omega)).mono ?_); rintro e w8 ⟨rfl, hB8⟩; have H8 := Lib.hid ((H7.out _).stay (Frm.of_below hB8 (fun _ => False)) (fun _ _ => id)); have HE8 := Lib.hid ((HE6.out _).below hB8 (Nat.le_refl _)); have HB8 := Lib.hid ((HB7.out _).trans (hB8.mono (HB7.out _).size)); clear hB8))
    all_goals (
      go_meet
      case rel => exact ⟨rfl, rfl, H8.out, below_on HB3.out HB8.out HB3.out.size, HE8.out, HN1.out⟩)
  case rest => as_aux_lemma =>
    obtain ⟨rfl, rfl, hI⟩ := hcut
    have HI := Lib.hid hI
    clear hI
    go_upto_region 17 with (go_at_call 17; ((with_reducible refine (do_same HI.out.h (stateF s.1 s.2) ⟨#[]⟩ 1000 (by rw [HSZ.out]; decide) (by decide) (by rw [HTT.out]; have := HT9.out; omega) rfl).mono ?_); rintro e w9 ⟨rfl, hB9⟩; have HI9 := Lib.hid (HI.out.stay hB9); clear hB9))
    go_cut [163, 164, 165] from 157 (fun a b c wx => WrS w t F s gv n1 cv L a wx ∧ b = .int .i64 2 ∧ c = .int .i64 0)
    case first => as_aux_lemma =>
      go_wp2_with (go_at_call 20; ((with_reducible refine (len_lit L HL.out HI9.out.h).mono ?_); rintro e wq ⟨rfl, rfl⟩))
      all_goals (
        go_meet
        case rel => exact ⟨⟨_, _, _, rfl, blk_new _ _, by omega, by omega, HI9.out.stay ((Below.refl _ _).alloc (Nat.le_refl _) _)⟩, rfl, rfl⟩)
    case rest => as_aux_lemma =>
      obtain ⟨⟨B, k1, k2, rfl, hK, hk1, hk2, hI⟩, rfl, rfl⟩ := hcut
      have HK := Lib.hid hK
      have HK1 := Lib.hid hk1
      have HK2 := Lib.hid hk2
      have HIc := Lib.hid hI
      have hBl := blk_lt hK
      clear hK hk1 hk2 hI
      go_wp2_with (fail)
      go_loopw [165] (fun i wr => ∃ j : Nat, j ≤ 2 ∧ i = .int .i64 j ∧ Below wc.heap.size wc wr) (fun i _ => 2 - (intOf i).toNat)
      case atStart => exact ⟨0, by omega, rfl, Below.refl _ _⟩
      case round =>
        obtain ⟨j, hj, rfl, hB⟩ := hrel
        have HB := Lib.hid hB
        have HIr := Lib.hid (HIc.out.stay hB)
        by_cases hj2 : j < 2
        · as_aux_lemma =>
          obtain ⟨k, hk, hkn⟩ : ∃ k, wr.cell? ⟨B, j, none⟩ = some (.int .i64 k) ∧ ¬ (0 ≤ k ∧ k < (L : Int)) := by
            have hc : ∀ i, wr.cell? ⟨B, i, none⟩ = (#[.int .i64 k1, .int .i64 k2] : Array Value)[i]? := fun i => (hB.cell (p := ⟨B, i, none⟩) hBl).trans (blk_cell HK.out i)
            have : j = 0 ∨ j = 1 := by omega
            rcases this with rfl | rfl
            · exact ⟨k1, hc 0, HK1.out⟩
            · exact ⟨k2, hc 1, HK2.out⟩
          have hkn2 : ¬ (0 ≤ k ∧ k < (s.1.length : Int)) := by rw [HL.out]; exact hkn
          have hnr : ¬ Right (ents s.1) k := fun h => hkn2 ⟨h.1, by have := h.2.1; rw [ents_len] at this; exact this⟩
          have HKN := Lib.hid hkn2
          have HNR := Lib.hid hnr
          have HSH := Lib.hid (short_acts' HAC.out)
          have a0 : (0 : Int) ≤ (j : Int) := by omega
          have a1 : (j : Int) < 2 := by omega
          clear hkn hkn2 hnr hB
          go_wp2_with (first
            | (go_at_call 18; ((with_reducible refine (go_no HIr.out.h k HKN.out).mono ?_); rintro e wa ⟨rfl, hBa⟩; have HIa := Lib.hid (HIr.out.stay hBa); have HBa := Lib.hid (HB.out.trans (hBa.mono HB.out.size)); clear hBa))
            | (go_at_call 24; ((with_reducible refine (entry_no HIa.out.h k HKN.out).mono ?_); rintro e wb ⟨rfl, hBb⟩; have HIb := Lib.hid (fun o => (HIa.out.stay hBb).stay ((Below.refl _ wb).alloc (Nat.le_refl _) o)); have HBb := Lib.hid (fun o => (HBa.out.trans (hBb.mono HBa.out.size)).alloc (HBa.out.trans (hBb.mono HBa.out.size)).size o); clear hBb))
            | (go_at_call 25; ((with_reducible refine (children_n (HIb.out _).h k HKN.out).mono ?_); rintro e wd ⟨pa, pc, rfl, hBd⟩; have HId := Lib.hid ((HIb.out _).stay hBd); have HBd := Lib.hid ((HBb.out _).trans (hBd.mono (HBb.out _).size)); have hx : wd.heap[wb.heap.size]? = _ := (hBd.block _ (by simp)).trans (blk_new wb _); clear hBd))
            | (go_at_call 22; ((with_reducible refine (way_n HId.out.h k HKN.out).mono ?_); rintro e we ⟨qa, qc, rfl, hBe⟩; have HIe := Lib.hid (HId.out.stay hBe); have HBe := Lib.hid (HBd.out.trans (hBe.mono HBd.out.size)); have hx2 := (hBe.block _ (blk_lt hx)).trans hx; clear hBe hx))
            | (go_at_call 21; ((with_reducible refine (between_n HIe.out.h 0 k (.inr HKN.out)).mono ?_); rintro e wf ⟨ra, rc, rfl, hBf⟩; have HIf := Lib.hid (HIe.out.stay hBf); have HBf := Lib.hid (HBe.out.trans (hBf.mono HBe.out.size)); have hx3 := (hBf.block _ (blk_lt hx2)).trans hx2; clear hBf hx2))
            | (go_at_call 21; ((with_reducible refine (between_n HIf.out.h k s.2 (.inl HKN.out)).mono ?_); rintro e wg ⟨sa, sc, rfl, hBg⟩; have HIg := Lib.hid (HIf.out.stay hBg); have HBg := Lib.hid (HBf.out.trans (hBg.mono HBf.out.size)); have hx4 := (hBg.block _ (blk_lt hx3)).trans hx3; have y0 := blk_cell hx4 0; have y1 := blk_cell hx4 1; have y2 := blk_cell hx4 2; have y3 := blk_cell hx4 3; clear hBg hx3 hx4))
            | (go_at_call 27; ((with_reducible refine (open_no _ gv n1 cv (ents s.1) k HIg.out.e HIg.out.n.symm hn1b HSH.out HNR.out).mono ?_); rintro e wh ⟨rfl, hBh⟩; have HBh := Lib.hid (HBg.out.trans (hBh.mono HBg.out.size)); clear hBh)))
          go_roundw
          case rel => exact ⟨j + 1, by omega, by go_num, HBh.out⟩
          case measure => simp [intOf]; omega
        · as_aux_lemma =>
          have a1 : ¬ ((j : Int) < 2) := by omega
          obtain ⟨we, rfl⟩ : ∃ we : World, we = wr := ⟨_, rfl⟩
          have hsv2 := save_any HIr.out.h
          unfold RetV at hsv2
          rw [← HN1.out] at hsv2
          have HSV2 := Lib.hid hsv2
          clear hB hsv2
          go_wp2_with (go_at_call 19; ((with_reducible refine HSV2.out.mono ?_); rintro e wa ⟨v2, rfl, hv2, hBa⟩; obtain ⟨g2, c2, rfl, _⟩ := hv2.form hn1p; have HBa := Lib.hid hBa; clear hv2 hBa))
          obtain ⟨wz, hwz⟩ : ∃ wz, wz = (wa.alloc (.cells #[.slice none 0 0, .map none, .int .i64 0, .pointer none] 81)).alloc (.cells #[.pointer none, .pointer (some ⟨wa.heap.size, 0, none⟩)] 24) := ⟨_, rfl⟩
          have hz0 : wz.heap[wa.heap.size + 1]? = some (.cells #[.pointer none, .pointer (some ⟨wa.heap.size, 0, none⟩)] 24 (0, 0)) := by
            have := blk_new (wa.alloc (.cells #[.slice none 0 0, .map none, .int .i64 0, .pointer none] 81)) (.cells #[.pointer none, .pointer (some ⟨wa.heap.size, 0, none⟩)] 24)
            rw [World.size_alloc] at this
            rw [hwz]; exact this
          have hz1 : wz.heap[wa.heap.size]? = some (.cells #[.slice none 0 0, .map none, .int .i64 0, .pointer none] 81 (0, 0)) := by
            rw [hwz]; exact blk_alloc (blk_new wa _) _
          have hBz : Below w.heap.size w wz := by
            rw [hwz]
            exact ((HIr.out.b.trans (HBa.out.mono HIr.out.b.size)).alloc (by have := HIr.out.b.size; have := HBa.out.size; omega) _).alloc (by have := HIr.out.b.size; have := HBa.out.size; simp; omega) _
          have HZ0 := Lib.hid hz0
          have HZ1 := Lib.hid hz1
          have HBz := Lib.hid hBz
          rw [← hwz]
          clear hwz hz0 hz1 hBz
          go_loopw [288] (fun i wx => ∃ j : Nat, j ≤ 2 ∧ i = .int .i64 j ∧ Below wz.heap.size wz wx) (fun i _ => 2 - (intOf i).toNat)
          case atStart => exact ⟨0, by omega, rfl, Below.refl _ _⟩
          case round => as_aux_lemma =>
            obtain ⟨j, hj, rfl, hB⟩ := hrel
            have HB := Lib.hid hB
            by_cases hj2 : j < 2
            · obtain ⟨bt, hbt, hbad⟩ : ∃ bt, wr.cell? ⟨wa.heap.size + 1, j, none⟩ = some bt ∧ BadT wr bt := by
                have hc : ∀ i, wr.cell? ⟨wa.heap.size + 1, i, none⟩ = (#[.pointer none, .pointer (some ⟨wa.heap.size, 0, none⟩)] : Array Value)[i]? := fun i => (hB.cell (p := ⟨wa.heap.size + 1, i, none⟩) (blk_lt HZ0.out)).trans (blk_cell HZ0.out i)
                have : j = 0 ∨ j = 1 := by omega
                rcases this with rfl | rfl
                · exact ⟨_, hc 0, .inl rfl⟩
                · exact ⟨_, hc 1, .inr ⟨wa.heap.size, rfl, (hB.cell (p := ⟨wa.heap.size, 3, none⟩) (blk_lt HZ1.out)).trans (blk_cell HZ1.out 3)⟩⟩
              have HBT := Lib.hid hbad
              have a0 : (0 : Int) ≤ (j : Int) := by omega
              have a1 : (j : Int) < 2 := by omega
              clear hbad hB
              go_wp2_with (first
                | (go_at_call 17; ((with_reducible refine (nil_do HBT.out ⟨#[120]⟩ ⟨#[]⟩ 0).mono ?_); rintro e wq ⟨rfl, rfl⟩))
                | (go_at_call 15; ((with_reducible refine (nil_undo HBT.out).mono ?_); rintro e wq ⟨rfl, rfl⟩))
                | (go_at_call 16; ((with_reducible refine (nil_redo HBT.out).mono ?_); rintro e wq ⟨rfl, rfl⟩))
                | (go_at_call 18; ((with_reducible refine (nil_go HBT.out n).mono ?_); rintro e wA ⟨rfl, hBA⟩; have TA := Lib.hid (HBT.out.below hBA); have HBA := Lib.hid (below_on HB.out hBA HB.out.size); clear hBA))
                | (go_at_call 24; ((with_reducible refine (nil_entry TA.out n).mono ?_); rintro e wB ⟨rfl, hBB⟩; have TB := Lib.hid (fun o => (TA.out.below hBB).below ((Below.refl _ wB).alloc (Nat.le_refl _) o)); have HBB := Lib.hid (fun o => (below_on HBA.out hBB HBA.out.size).alloc (below_on HBA.out hBB HBA.out.size).size o); clear hBB))
                | (go_at_call 25; ((with_reducible refine (nil_children (TB.out _) n).mono ?_); rintro e wC ⟨rfl, hBC⟩; have TC := Lib.hid ((TB.out _).below hBC); have HBC := Lib.hid (below_on (HBB.out _) hBC (HBB.out _).size); clear hBC))
                | (go_at_call 22; ((with_reducible refine (nil_way TC.out n).mono ?_); rintro e wD ⟨rfl, hBD⟩; have TD := Lib.hid (TC.out.below hBD); have HBD := Lib.hid (below_on HBC.out hBD HBC.out.size); clear hBD))
                | (go_at_call 21; ((with_reducible refine (nil_between TD.out n n).mono ?_); rintro e wE ⟨rfl, hBE⟩; have TE := Lib.hid (TD.out.below hBE); have HBE := Lib.hid (below_on HBD.out hBE HBD.out.size); clear hBE))
                | (go_at_call 14; ((with_reducible refine (nil_now TE.out).mono ?_); rintro e wq ⟨rfl, rfl⟩))
                | (go_at_call 19; ((with_reducible refine (nil_save TE.out).mono ?_); rintro e wq ⟨rfl, rfl⟩))
                | (go_at_call 20; ((with_reducible refine (nil_len TE.out).mono ?_); rintro e wq ⟨rfl, rfl⟩))
                | (go_at_call 26; ((with_reducible refine (nil_finds TE.out ⟨#[]⟩).mono ?_); rintro e wq ⟨rfl, rfl⟩)))
              go_roundw
              case rel => exact ⟨j + 1, by omega, by go_num, HBE.out⟩
              case measure => simp [intOf]; omega
            · have a1 : ¬ ((j : Int) < 2) := by omega
              go_wp2_with (fail)
              go_ret
              exact ⟨rfl, below_on HBz.out HB.out HBz.out.size⟩
end Go.Proofs.Ythneinepdbkgeaa
