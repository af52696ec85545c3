/- The reference: Progress, Permille; goals. -/
import Derived.Test.YtfebcpmbkljaoaaRefE
namespace Go.Proofs.Ytfebcpmbkljaoaa
open Go.RowKit Go.HR
set_option linter.unusedVariables false
set_option linter.unusedSimpArgs false
set_option linter.unusedSectionVars false
theorem goal8_at {W : World} {base : Nat} {v : Value} {gs : List StepV} (h : IsG8 W base v gs) {i : Nat} {x : StepV} (hx : gs[i]? = some x) : ∃ g cap, v = .slice (some ⟨g, 0, none⟩) gs.length cap ∧ W.cell? ⟨g, i * 2, none⟩ = some x.pv.v ∧ W.cell? ⟨g, i * 2 + 1, none⟩ = some (.int .i64 (x.d.wt : Nat)) := by
  rcases h.1.2 with ⟨h0, h1⟩ | ⟨g, cap, cur, hv, hg, hh, r⟩
  · have := (List.getElem?_eq_some_iff.1 hx).1; omega
  · refine ⟨g, cap, hv, ?_, ?_⟩
    · have := h.1.cells (g := g) (by rw [hv]; rfl) (i * 2 + 0) x.pv.v (by rw [flatG, flat_get (fun x : StepV => [x.pv.v, .int .i64 (x.d.wt : Nat)]) 2 (fun x => rfl) gs i 0 x hx (by omega)]; rfl)
      rwa [add_zero_at] at this
    · have := h.1.cells (g := g) (by rw [hv]; rfl) (i * 2 + 1) (.int .i64 (x.d.wt : Nat)) (by rw [flatG, flat_get (fun x : StepV => [x.pv.v, .int .i64 (x.d.wt : Nat)]) 2 (fun x => rfl) gs i 1 x hx (by omega)]; rfl)
      rwa [add_zero_at] at this
theorem goal8_form {W : World} {base : Nat} {v : Value} {gs : List StepV} (h : IsG8 W base v gs) : ∃ a c, v = .slice a gs.length c := by
  rcases h.1.2 with ⟨h0, h1⟩ | ⟨g, cap, cur, hv, _⟩
  · exact ⟨none, 0, by rw [h0, h1]⟩
  · exact ⟨_, _, hv⟩
def refG (t : PT) (ws : List (List Int)) : List StepD × Nat := goalsT (badD ws) [] whole t
theorem ref_goals (w : World) (t : PT) (sv sw : SL) (ws : List (List Int)) (hs : IsPs w.heap.size w sv t.subs) (hz : sizeT t ≤ 320) (hw : IsW w sw ws) (hl : ws.length ≤ 20000) (hu : ∀ u ∈ ws, u.length ≤ 20000) :
    Calls Try.prog 20 #[.agg (t.arr sv), .slice none 0 0, .int .i64 1152921504606846976, sw.v] w (RetGs w (refG t ws)) :=
  goals_all t w sv SL.nil sw [] whole ws hs (PlaceB.nil w) (by simp only [List.length_nil]; omega) (Nat.le_refl _) hw hl hu
theorem refG_len (t : PT) (ws : List (List Int)) : (refG t ws).1.length ≤ sizeT t ∧ (refG t ws).2 ≤ sizeT t := ⟨(goalsT_cnt _ _ _ t).2, (goalsT_cnt _ _ _ t).1⟩
theorem refG_sum (t : PT) (ws : List (List Int)) : sumW (refG t ws).1 ≤ whole := sum_goalsT _ _ _ t
section
variable (w : World) (t : PT) (sv sw : SL) (ws : List (List Int)) (hs : IsPs w.heap.size w sv t.subs) (hz : sizeT t ≤ 320) (hw : IsW w sw ws) (hl : ws.length ≤ 20000) (hu : ∀ u ∈ ws, u.length ≤ 20000)
include hs hz hw hl hu
set_option maxRecDepth 100000 in
set_option maxHeartbeats 8000000 in
theorem progressR_call : Calls Try.prog 22 #[.agg (t.arr sv), sw.v] w (RetB w (.int .i64 (restN (refG t ws).1 : Nat))) := by
  have hg := fun (W : World) (hB : Below w.heap.size w W) => ref_goals W t sv sw ws (hs.up hB) hz (hw.below hB) hl hu
  have hlen : (refG t ws).1.length ≤ 320 ∧ (refG t ws).2 ≤ 320 := by have := refG_len t ws; omega
  have hsum := refG_sum t ws
  obtain ⟨RG, hRG⟩ : ∃ RG, RG = refG t ws := ⟨_, rfl⟩
  rw [← hRG] at hlen hsum ⊢
  unfold RetGs at hg
  rw [← hRG] at hg
  obtain ⟨rule, ⟨op, name, ⟨aa, an, ac⟩, ⟨fa, fn, fc⟩, label, ⟨ma, mn, mc⟩⟩, subs⟩ := t
  obtain ⟨sa, sn, sc⟩ := sv
  obtain ⟨wa, wn, we⟩ := sw
  simp only [PT.arr, PT.rule, PT.o, PT.subs, SL.v] at hg ⊢
  obtain ⟨G, hG⟩ : ∃ G, G = w.heap.size := ⟨_, rfl⟩
  obtain ⟨w1, hw1⟩ : ∃ w1, w1 = w.alloc (.cells #[.string rule, .int .u8 op, .string name, .slice aa an ac, .slice fa fn fc, .int .i64 label, .slice sa sn sc, .slice ma mn mc] 30) := ⟨_, rfl⟩
  have hB1 : Below w.heap.size w w1 := by rw [hw1]; exact bl_al (Below.refl _ _)
  have hx1 : w1.heap[G]? = some (.cells #[.string rule, .int .u8 op, .string name, .slice aa an ac, .slice fa fn fc, .int .i64 label, .slice sa sn sc, .slice ma mn mc] 30 (0, 0)) := by rw [hw1, hG]; exact HK.blk_new _ _
  have HGO := Lib.hid hg
  have HLEN := Lib.hid hlen
  have HSUM := Lib.hid hsum
  have HB1 := Lib.hid hB1
  have HX1 := Lib.hid hx1
  have HW1 := Lib.hid hw1
  have HG := Lib.hid hG
  obtain ⟨r, hr⟩ : ∃ r, r = restN RG.1 := ⟨_, rfl⟩
  rw [← hr]
  have HRR := Lib.hid hr
  clear hg hlen hsum hB1 hw1 hG hs hz hw hl hu hRG hr
  go_enter Try.func22, Try.ntmps22
  go_upto_region 1 with (fail)
  rw [← HW1.out, ← HG.out]
  have x0 := HK.blk_cell hx1 0
  have x1 := HK.blk_cell hx1 1
  have x2 := HK.blk_cell hx1 2
  have x3 := HK.blk_cell hx1 3
  have x4 := HK.blk_cell hx1 4
  have x5 := HK.blk_cell hx1 5
  have x6 := HK.blk_cell hx1 6
  have x7 := HK.blk_cell hx1 7
  clear hx1
  go_upto_region 2 with (go_at_call 20; (refine (HGO.out w1 HB1.out).mono ?_; rintro e w2 ⟨v, gs, rfl, h1, h2, h3⟩; obtain ⟨va, vc, rfl⟩ := goal8_form h2; have HGS := Lib.hid h1; have HIG := Lib.hid h2; have HB2 := Lib.hid (below_then HB1.out h3); clear h1 h2 h3))
  clear x0 x1 x2 x3 x4 x5 x6 x7
  obtain ⟨n, hn⟩ : ∃ n, n = gs.length := ⟨_, rfl⟩
  rw [← hn]
  have hlg : RG.1.length = n := by rw [← HGS.out, List.length_map, hn]
  have hn320 : n ≤ 320 := by have := HLEN.out.1; omega
  have HN := Lib.hid hn
  have HLG := Lib.hid hlg
  clear hn hlg
  go_wp2_with (fail)
  go_loopw [7, 8] (fun nv jv wr => ∃ k m : Nat, k ≤ n ∧ jv = .int .i64 k ∧ nv = .int .i64 m ∧ m + sumW (RG.1.take k) = whole ∧ m ≤ 1152921504606846976 ∧ wr = w2) (fun _ j _ => n - (intOf j).toNat)
  case atStart => exact ⟨0, 1152921504606846976, by omega, rfl, rfl, by simp [sumW, whole], by omega, rfl⟩
  case round =>
    obtain ⟨k, m, hk, rfl, rfl, hsm, hm, rfl⟩ := hrel
    by_cases h1 : k < n
    · obtain ⟨x, hx⟩ : ∃ x, gs[k]? = some x := ⟨_, List.getElem?_eq_getElem (by rw [← HN.out]; exact h1)⟩
      obtain ⟨g, cap, hv, _, c1⟩ := goal8_at HIG.out hx
      simp only [Value.slice.injEq] at hv
      obtain ⟨rfl, hv1, hv2⟩ := hv
      clear hv1 hv2
      have hd : RG.1[k]? = some x.d := by rw [← HGS.out, List.getElem?_map, hx]; rfl
      have htk := sumW_take hd
      have hle := sumW_le RG.1 (k + 1)
      obtain ⟨m2, hm2⟩ : ∃ m2, m2 = m - x.d.wt := ⟨_, rfl⟩
      have h4 := HSUM.out
      have hwm : x.d.wt ≤ m := by omega
      have z3 : (m : Int) - (x.d.wt : Int) = (m2 : Int) := by omega
      have z4 : m2 ≤ 1152921504606846976 := by omega
      have hs2 : m2 + sumW (RG.1.take (k + 1)) = whole := by omega
      have HS2 := Lib.hid hs2
      have y1 : (0 : Int) ≤ (k : Int) := by omega
      have y2 : (k : Int) < (n : Int) := by omega
      clear hx hd htk hle h4 hsm hm2 hs2
      go_wp2_with (fail)
      go_roundw
      case rel => exact ⟨k + 1, m2, by omega, by go_num, rfl, HS2.out, z4, by trivial⟩
      case measure => simp [intOf]; omega
    · have hkn : k = n := by omega
      have hms : m + sumW RG.1 = whole := by rw [List.take_of_length_le (by rw [HLG.out]; omega)] at hsm; exact hsm
      have hr := HRR.out
      have hr1 : RG.1 = [] → r = m := fun h => by rw [hr]; unfold restN; rw [if_pos h]; rw [h] at hms; simpa [sumW] using hms.symm
      have hr2 : RG.1 ≠ [] → r = min m (whole - 1) := fun h => by rw [hr]; unfold restN; rw [if_neg h]; congr 1; omega
      have hnil : RG.1 = [] ↔ n = 0 := by rw [← List.length_eq_zero_iff, HLG.out]
      have hwh : whole = 1152921504606846976 := rfl
      have y3 : ¬ ((k : Int) < (n : Int)) := by omega
      by_cases hn0 : n = 0
      · have hrm := hr1 (hnil.2 hn0)
        subst hrm
        subst hn0
        clear hr hr1 hr2 hnil hms hsm hkn
        go_wp2_with (fail)
        go_ret
        exact ⟨rfl, HB2.out⟩
      · have hrm := hr2 (fun h => hn0 (hnil.1 h))
        have y4 : (0 : Int) < (n : Int) := by omega
        by_cases hmw : m = 1152921504606846976
        · subst hmw
          have hrr : r = 1152921504606846975 := by rw [hrm]; rfl
          subst hrr
          clear hr hr1 hr2 hnil hms hsm hkn hrm
          go_wp2_with (fail)
          go_ret
          exact ⟨rfl, HB2.out⟩
        · have hrr : r = m := by rw [hrm]; omega
          subst hrr
          have y5 : ((r : Int) == 1152921504606846976) = false := by simp; omega
          have y6 : ¬ (r : Int) = 1152921504606846976 := by omega
          clear hr hr1 hr2 hnil hms hsm hkn hrm
          go_wp2_with (fail)
          go_ret
          exact ⟨rfl, HB2.out⟩
end
theorem perm_step (n k : Nat) : (k + 1) * 1152921504606846 + ((k + 1) * 976 + 999) / 1000 ≤ n ↔ (k + 1) * 1152921504606846976 ≤ 1000 * n := by omega
section
variable (w : World) (t : PT) (sv sw : SL) (ws : List (List Int)) (hs : IsPs w.heap.size w sv t.subs) (hz : sizeT t ≤ 320) (hw : IsW w sw ws) (hl : ws.length ≤ 20000) (hu : ∀ u ∈ ws, u.length ≤ 20000)
include hs hz hw hl hu
set_option maxRecDepth 100000 in
set_option maxHeartbeats 8000000 in
theorem permilleR_call : Calls Try.prog 23 #[.agg (t.arr sv), sw.v] w (RetB w (.int .i64 ((if (refG t ws).1 = [] then 1000 else min (1000 * restN (refG t ws).1 / 1152921504606846976) 999 : Nat) : Nat))) := by
  have hp := fun (W : World) (hB : Below w.heap.size w W) => progressR_call W t sv sw ws (hs.up hB) hz (hw.below hB) hl hu
  have hg := fun (W : World) (hB : Below w.heap.size w W) => ref_goals W t sv sw ws (hs.up hB) hz (hw.below hB) hl hu
  have hlen : (refG t ws).1.length ≤ 320 ∧ (refG t ws).2 ≤ 320 := by have := refG_len t ws; omega
  have hsum := refG_sum t ws
  obtain ⟨RG, hRG⟩ : ∃ RG, RG = refG t ws := ⟨_, rfl⟩
  rw [← hRG] at hlen hsum ⊢
  unfold RetGs at hg
  rw [← hRG] at hg
  rw [← hRG] at hp
  obtain ⟨rule, ⟨op, name, ⟨aa, an, ac⟩, ⟨fa, fn, fc⟩, label, ⟨ma, mn, mc⟩⟩, subs⟩ := t
  obtain ⟨sa, sn, sc⟩ := sv
  obtain ⟨wa, wn, we⟩ := sw
  simp only [PT.arr, PT.rule, PT.o, PT.subs, SL.v] at hg hp ⊢
  obtain ⟨G, hG⟩ : ∃ G, G = w.heap.size := ⟨_, rfl⟩
  obtain ⟨w1, hw1⟩ : ∃ w1, w1 = w.alloc (.cells #[.string rule, .int .u8 op, .string name, .slice aa an ac, .slice fa fn fc, .int .i64 label, .slice sa sn sc, .slice ma mn mc] 30) := ⟨_, rfl⟩
  have hB1 : Below w.heap.size w w1 := by rw [hw1]; exact bl_al (Below.refl _ _)
  have hx1 : w1.heap[G]? = some (.cells #[.string rule, .int .u8 op, .string name, .slice aa an ac, .slice fa fn fc, .int .i64 label, .slice sa sn sc, .slice ma mn mc] 30 (0, 0)) := by rw [hw1, hG]; exact HK.blk_new _ _
  have HGO := Lib.hid hg
  have HLEN := Lib.hid hlen
  have HSUM := Lib.hid hsum
  have HB1 := Lib.hid hB1
  have HX1 := Lib.hid hx1
  have HW1 := Lib.hid hw1
  have HG := Lib.hid hG
  have HPR := Lib.hid hp
  clear hg hp hlen hsum hB1 hw1 hG hs hz hw hl hu hRG
  obtain ⟨N, hN⟩ : ∃ N, N = restN RG.1 := ⟨_, rfl⟩
  have hNw : N ≤ 1152921504606846976 := by rw [hN]; exact restN_le _
  have hpr := HPR.out
  rw [← hN] at hpr ⊢
  obtain ⟨r, hr⟩ : ∃ r, r = if RG.1 = [] then 1000 else min (1000 * N / 1152921504606846976) 999 := ⟨_, rfl⟩
  rw [← hr]
  have hr1 : RG.1 = [] → r = 1000 := fun h => by rw [hr, if_pos h]
  have hr2 : RG.1 ≠ [] → r = min (1000 * N / 1152921504606846976) 999 := fun h => by rw [hr, if_neg h]
  have HR1 := Lib.hid hr1
  have HR2 := Lib.hid hr2
  clear hr hr1 hr2
  have HPR2 := Lib.hid hpr
  clear hN hpr HPR
  go_enter Try.func23, Try.ntmps23
  go_upto_region 1 with (fail)
  rw [← HW1.out, ← HG.out]
  have x0 := HK.blk_cell hx1 0
  have x1 := HK.blk_cell hx1 1
  have x2 := HK.blk_cell hx1 2
  have x3 := HK.blk_cell hx1 3
  have x4 := HK.blk_cell hx1 4
  have x5 := HK.blk_cell hx1 5
  have x6 := HK.blk_cell hx1 6
  have x7 := HK.blk_cell hx1 7
  clear hx1
  go_upto_region 2 with (go_at_call 20; (refine (HGO.out w1 HB1.out).mono ?_; rintro e w2 ⟨v, gs, rfl, h1, h2, h3⟩; obtain ⟨va, vc, rfl⟩ := goal8_form h2; have HGS := Lib.hid h1; have hx2 := (h3.block _ (HK.blk_lt HX1.out)).trans HX1.out; have HX2 := Lib.hid hx2; have HB2 := Lib.hid (below_then HB1.out h3); clear h1 h2 h3 hx2))
  clear x0 x1 x2 x3 x4 x5 x6 x7
  have hx2 := HX2.out
  obtain ⟨n, hn⟩ : ∃ n, n = gs.length := ⟨_, rfl⟩
  rw [← hn]
  have hnil : RG.1 = [] ↔ n = 0 := by rw [← List.length_eq_zero_iff, ← HGS.out, List.length_map, hn]
  by_cases hn0 : n = 0
  · have hrr := HR1.out (hnil.2 hn0)
    subst hrr
    subst hn0
    clear hn hnil hx2
    go_wp2_with (fail)
    go_ret
    exact ⟨rfl, HB2.out⟩
  · have hr := HR2.out (fun h => hn0 (hnil.1 h))
    have HR := Lib.hid hr
    clear hr
    have y1 : ((n : Int) == 0) = false := by simp; omega
    have y2 : ¬ (n : Int) = 0 := by omega
    have x0 := HK.blk_cell hx2 0
    have x1 := HK.blk_cell hx2 1
    have x2 := HK.blk_cell hx2 2
    have x3 := HK.blk_cell hx2 3
    have x4 := HK.blk_cell hx2 4
    have x5 := HK.blk_cell hx2 5
    have x6 := HK.blk_cell hx2 6
    have x7 := HK.blk_cell hx2 7
    clear hn hnil hx2
    go_upto_region 5 with (go_at_call 22; (refine (HPR2.out w2 HB2.out).mono ?_; rintro e w3 ⟨rfl, h3⟩; have HB3 := Lib.hid (below_then HB2.out h3); clear h3))
    clear x0 x1 x2 x3 x4 x5 x6 x7
    go_wp2_with (fail)
    go_loopw [8] (fun jv wr => ∃ k : Nat, k ≤ 999 ∧ jv = .int .i64 k ∧ k * 1152921504606846976 ≤ 1000 * N ∧ wr = w3) (fun j _ => 999 - (intOf j).toNat)
    case atStart => exact ⟨0, Nat.zero_le _, rfl, by rw [Nat.zero_mul]; exact Nat.zero_le _, rfl⟩
    case round =>
      obtain ⟨k, hk, rfl, hkN, rfl⟩ := hrel
      by_cases h1 : k < 999
      · have hst := perm_step N k
        obtain ⟨k1, hk1⟩ : ∃ k1, k1 = k + 1 := ⟨_, rfl⟩
        obtain ⟨A, hA⟩ : ∃ A, A = k1 * 1152921504606846 := ⟨_, rfl⟩
        obtain ⟨B, hB⟩ : ∃ B, B = k1 * 976 := ⟨_, rfl⟩
        obtain ⟨C, hC⟩ : ∃ C, C = B + 999 := ⟨_, rfl⟩
        obtain ⟨D, hD⟩ : ∃ D, D = C / 1000 := ⟨_, rfl⟩
        obtain ⟨S, hS⟩ : ∃ S, S = A + D := ⟨_, rfl⟩
        rw [← hk1, ← hA, ← hB, ← hC, ← hD, ← hS] at hst
        have z1 : (k : Int) + 1 = (k1 : Int) := by omega
        have z2 : (k1 : Int) * 1152921504606846 = (A : Int) := by omega
        have z3 : (k1 : Int) * 976 = (B : Int) := by omega
        have z4 : (B : Int) + 999 = (C : Int) := by omega
        have z5 : (C : Int) / 1000 = (D : Int) := by omega
        have z6 : (C : Int).tdiv 1000 = (D : Int) := by rw [Int.tdiv_eq_ediv_of_nonneg (by omega)]; exact z5
        have z7 : (A : Int) + (D : Int) = (S : Int) := by omega
        have b1 : k1 ≤ 1000 := by omega
        have b2 : A ≤ 1152921504606846000 := by omega
        have b3 : B ≤ 976000 := by omega
        have b4 : C ≤ 976999 := by omega
        have b5 : D ≤ 977 := by omega
        have b6 : S ≤ 1152921504606846977 := by omega
        have y0 : (k : Int) < 999 := by omega
        have HK1 := Lib.hid hk1
        have HST := Lib.hid hst
        have HKN := Lib.hid hkN
        clear hst hk1 hA hB hC hD hS hkN
        by_cases hNS : N < S
        · have y3 : (N : Int) < (S : Int) := by omega
          have hrk : r = k := by
            have h1 := HST.out
            have h2 := HR.out
            have h3 := HK1.out
            have h4 := HKN.out
            omega
          subst hrk
          go_wp2_with (fail)
          go_ret
          exact ⟨rfl, HB3.out⟩
        · have y3 : ¬ (N : Int) < (S : Int) := by omega
          go_wp2_with (fail)
          go_roundw
          case rel => exact ⟨k1, by omega, rfl, HST.out.1 (by omega), by trivial⟩
          case measure => have := HK1.out; simp [intOf]; omega
      · have hk9 : k = 999 := by omega
        have hrk : r = 999 := by
          have h2 := HR.out
          omega
        subst hk9
        subst hrk
        clear hkN
        go_wp2_with (fail)
        go_ret
        exact ⟨rfl, HB3.out⟩
end
end Go.Proofs.Ytfebcpmbkljaoaa
namespace Go.Proofs.Ytfebcpmbkljaoaa
open Go.RowKit Go.HR
set_option linter.unusedVariables false
set_option linter.unusedSimpArgs false
set_option linter.unusedSectionVars false
set_option maxRecDepth 100000 in
set_option maxHeartbeats 8000000 in
theorem goals_same (w : World) (b1 b2 : Nat) (v1 v2 : Value) (gs1 gs2 : List StepV) (h1 : IsG w b1 v1 gs1) (h2 : IsG8 w b2 v2 gs2) (he : gs1.map (·.d) = gs2.map (·.d)) (hl : gs1.length ≤ 20000) (hp : ∀ x ∈ gs1, x.d.pl.length ≤ 20000) : Calls Try.prog 21 #[v1, v2] w (RetD w (.bool true)) := by
  have hlen : gs2.length = gs1.length := by have := congrArg List.length he; simpa using this.symm
  obtain ⟨a1, c1, rfl⟩ := goal_form h1
  obtain ⟨a2, c2, rfl⟩ := goal8_form h2
  obtain ⟨n, hn⟩ : ∃ n, n = gs1.length := ⟨_, rfl⟩
  rw [hlen]
  rw [hlen] at h2
  rw [← hn] at hl h1 h2 ⊢
  have H1 := Lib.hid h1
  have H2 := Lib.hid h2
  have HE := Lib.hid he
  have HP := Lib.hid hp
  have HN := Lib.hid hn
  have HLEN := Lib.hid hlen
  clear h1 h2 he hp hn hlen
  go_enter Try.func21, Try.ntmps21
  go_wp2_with (fail)
  go_loopw [13] (fun i wr => ∃ k d : Nat, k ≤ n ∧ i = .int .i64 k ∧ wr = w.drewN d) (fun i _ => n - (intOf i).toNat)
  case atStart => exact ⟨0, 0, by omega, rfl, rfl⟩
  case round =>
    obtain ⟨k, d, hk, rfl, rfl⟩ := hrel
    obtain ⟨w2, hw2⟩ : ∃ w2, w2 = w.drewN d := ⟨_, rfl⟩
    rw [← hw2]
    have HW2 := Lib.hid hw2
    by_cases h1 : k < n
    · obtain ⟨x, hx⟩ : ∃ x, gs1[k]? = some x := ⟨_, List.getElem?_eq_getElem (by rw [← HN.out]; omega)⟩
      obtain ⟨y, hy⟩ : ∃ y, gs2[k]? = some y := ⟨_, List.getElem?_eq_getElem (by rw [HLEN.out, ← HN.out]; omega)⟩
      have hxy : y.d = x.d := by
        have h3 := congrArg (fun l : List StepD => l[k]?) HE.out
        simp only [List.getElem?_map, hx, hy, Option.map_some, Option.some.injEq] at h3
        exact h3.symm
      obtain ⟨g, _, hv1, a0, a1'⟩ := goal_at H1.out hx
      obtain ⟨g2, _, hv2, b0, b1'⟩ := goal8_at H2.out hy
      simp only [Value.slice.injEq] at hv1 hv2
      obtain ⟨rfl, hz1, hz2⟩ := hv1
      obtain ⟨rfl, hz3, hz4⟩ := hv2
      clear hz1 hz2 hz3 hz4
      have pa := (H1.out.2 x (List.mem_of_getElem? hx)).isI
      have pb := (H2.out.2.2 y (List.mem_of_getElem? hy)).isI
      have hpl := HP.out x (List.mem_of_getElem? hx)
      rw [hxy] at b1' pb
      obtain ⟨⟨plx, wtx, TX⟩, ⟨pax, pnx, pcx⟩, xsv⟩ := x
      obtain ⟨yd, ⟨pay, pny, pcy⟩, ysv⟩ := y
      simp only [SL.v] at a0 a1' b0 b1' pa pb hpl
      have hq1 := fun q => ints_quiet (W := w2) (q := q) (by rw [hw2]; exact pa.below ⟨rfl, rfl, rfl, Nat.le_refl _, fun _ _ => rfl⟩) (by rw [hw2]; exact pb.below ⟨rfl, rfl, rfl, Nat.le_refl _, fun _ _ => rfl⟩) (by simp; omega)
      simp only [SL.v] at hq1
      have HQ1 := Lib.hid hq1
      have k0 : ∀ q, (w2.drewN q).cell? ⟨g, k * 2, none⟩ = some (.slice pax pnx pcx) := fun q => by rw [hw2]; exact a0
      have k1 : ∀ q, (w2.drewN q).cell? ⟨g, k * 2 + 1, none⟩ = some (.int .i64 wtx) := fun q => by rw [hw2]; exact a1'
      have k2 : ∀ q, (w2.drewN q).cell? ⟨g2, k * 2, none⟩ = some (.slice pay pny pcy) := fun q => by rw [hw2]; exact b0
      have k3 : ∀ q, (w2.drewN q).cell? ⟨g2, k * 2 + 1, none⟩ = some (.int .i64 wtx) := fun q => by rw [hw2]; exact b1'
      have z0 : (0 : Int) ≤ (k : Int) := by omega
      have z1 : (k : Int) < (n : Int) := by omega
      clear hx hy hxy a0 a1' b0 b1' pa pb hpl hq1 hw2
      go_upto_region 6 with (fail)
      go_quiet ((go_at_call 26; first | (with_reducible exact HQ1.out _)))
      go_wp2_with (fail)
      go_roundw
      case rel => exact ⟨k + 1, _, by omega, by go_num, by rw [HW2.out]; simp; rfl⟩
      case measure => simp [intOf]; omega
    · have hkn : k = n := by omega
      have b4 : ¬ ((k : Int) < (n : Int)) := by omega
      clear hw2 hkn
      go_wp2_with (fail)
      go_ret
      exact ⟨rfl, d, HW2.out⟩
end Go.Proofs.Ytfebcpmbkljaoaa
