/- HistorySaves where nothing more is done. -/
import Derived.Test.YthneinepdbkgeaaSavew
import Derived.Test.YthneinepdbkgeaaActRow
namespace Go.Proofs.Ythneinepdbkgeaa
open Go.RowKit Go.HK
set_option linter.unusedVariables false
set_option linter.unusedSimpArgs false
set_option linter.unusedSectionVars false
set_option maxRecDepth 100000 in
set_option maxHeartbeats 16000000 in
theorem saves_nil (w : World) (v0 : Value) (hacted : ∀ w', Below w.heap.size w w' → Calls Try.prog 13 #[v0] w' (ActedR w')) (o : Nat) (ho : o ≤ 255) : Calls Try.prog 7 #[v0, .int .u8 o, .slice none 0 0] w (TrueR4 w) := by
  have HA := Lib.hid hacted
  clear hacted
  go_enter Try.func7, Try.ntmps7
  go_upto_region 7 with (first
    | (go_at_call 12; refine (awake_any _).mono ?_; rintro e w1 ⟨rfl, hB1⟩)
    | (go_at_call 13; refine (HA.out _ hB1).mono ?_; rintro e w2 ⟨t, F, s, m, NS, SS, p, q, rfl, hW, hAc, hL, hm0, hm1⟩)
    | (go_at_call 19; refine (save_any hW.h).mono ?_; rintro e w3 ⟨v, rfl, hv, hB3⟩; obtain ⟨gv, cv, rfl, _⟩ := hv.form (entsLen_pos hW.h.1)))
  obtain ⟨n1, hn1⟩ : ∃ n1, n1 = (ents s.1).length := ⟨_, rfl⟩
  rw [← hn1] at hv ⊢
  have hn1b : n1 ≤ 1000 := by rw [hn1, ents_len]; exact hW.h.1.le
  have hn1p : 0 < n1 := by rw [hn1]; exact entsLen_pos hW.h.1
  have hnl : n1 = s.1.length := by rw [hn1, ents_len]
  have hE := EntsAt.of hv hn1
  obtain ⟨x, hx⟩ : ∃ x, x = o % n1 := ⟨_, rfl⟩
  have hxl : x < n1 := by rw [hx]; exact Nat.mod_lt _ hn1p
  have rx : (IntKind.i64.wrap (o : Int)).tmod (n1 : Int) = (x : Int) := by rw [hx]; exact rem_small o n1 ho
  have rx2 : (o : Int) % (n1 : Int) = (x : Int) := by rw [hx]; simp
  have hRn := right_acts hW.h.1 hAc hW.h.1.now
  have hRx := right_acts hW.h.1 hAc (x := x) (by omega)
  have hSh := short_acts hAc
  have HE := Lib.hid hE
  have HN1 := Lib.hid hn1
  have HNL := Lib.hid hnl
  have HRN := Lib.hid hRn
  have HRX := Lib.hid hRx
  have HSH := Lib.hid hSh
  have HW := Lib.hid (hW.stay hB3)
  have HWF := Lib.hid hW.h.1
  have HAC := Lib.hid hAc
  have HB1 := Lib.hid hB1
  have l0 : ¬ ((n1 : Int) = 0) := by omega
  have l1 : ¬ (n1 = 0) := by omega
  clear hW hAc hL hB1 hB3 hv hm0 hm1 hn1 hnl hE hx hRn hRx hSh
  go_upto_region 11 with (first
    | (go_at_call 27; ((with_reducible refine (open_yes w3 gv n1 cv (ents s.1) s.2 HE.out HN1.out.symm hn1b HSH.out HRN.out).mono ?_); rintro e w4 ⟨u, G, rfl, hU, hB4, hG⟩; have HU := Lib.hid hU; have HB4 := Lib.hid hB4; have HG := Lib.hid hG; clear hU hB4 hG))
    | (go_at_call 27; ((with_reducible refine (open_yes w4 gv n1 cv (ents s.1) x (HE.out.below HB4.out (Nat.le_refl _)) HN1.out.symm hn1b HSH.out HRX.out).mono ?_); rintro e w5 ⟨z, Z, rfl, hZ, hB5, _⟩; have HZ := Lib.hid hZ; have HB5 := Lib.hid hB5; clear hZ hB5)))
  have hlR : (ents s.1).length ≤ 1000 := by rw [← HN1.out]; exact hn1b
  have hzs : stateF (openN (ents s.1) x) x = stateF s.1 x := by rw [stateF_ents, ents_openN HRX.out hlR, ← stateF_ents]
  have hnow := now_any HZ.out
  rw [hzs] at hnow
  have HNOW := Lib.hid hnow
  have c3 : ∀ w', Below w5.heap.size w5 w' → w'.cell? ⟨gv, x * 4 + 3, none⟩ = some (.string (stateF s.1 x)) := fun w' hb =>
    ents_get_state (((HE.out.below HB4.out (Nat.le_refl _)).below HB5.out (Nat.le_refl _)).below hb (Nat.le_refl _)) (by rw [← HNL.out]; exact hxl)
  have C3 := Lib.hid c3
  have b0 : (0 : Int) ≤ (x : Int) := by omega
  have b1 : (x : Int) < (n1 : Int) := by omega
  have hT0 : TwW w t u F G s (openN (ents s.1) s.2, s.2) w5 := by
    have h1 := HW.out
    refine ⟨?_, ?_, ?_, fun k hk => Nat.le_trans HB1.out.size (h1.f k hk), fun k hk => ?_, fun k hk hg => ?_⟩
    · exact ((h1.stay HB4.out).stay HB5.out).h
    · exact HU.out.stay (Frm.of_below HB5.out (fun _ => False)) (fun _ _ => id)
    · exact HB1.out.trans (((h1.stay HB4.out).stay HB5.out).b.mono HB1.out.size)
    · have h2 := (HB1.out.trans (h1.b.mono HB1.out.size)).size
      have := HG.out k hk
      omega
    · have := HG.out k hg
      have := h1.h.lt k hk
      omega
  have hS0 : Sim s (openN (ents s.1) s.2, s.2) := ⟨(ents_openN HRN.out hlR).symm, rfl, led_openN HRN.out hlR⟩
  have HT0 := Lib.hid hT0
  have HS0 := Lib.hid hS0
  clear hnow hzs c3 hT0 hS0
  go_upto_region 14 with (go_at_call 14; ((with_reducible refine HNOW.out.mono ?_); rintro e w6 ⟨rfl, hB6⟩; have c6 := C3.out w6 hB6; have HB6 := Lib.hid hB6; clear hB6))
  have hT1 := HT0.out.stay HB6.out
  have HT1 := Lib.hid hT1
  clear hT1 rx rx2 c6
  go_wp2_with (fail)
  go_loopw [19] (fun i wr => ∃ (F G : List Nat) (s r : HS), i = .int .i64 0 ∧ TwW w t u F G s r wr ∧ Sim s r) (fun i _ => 20 - (intOf i).toNat)
  case atStart => exact ⟨F, G, s, (openN (ents s.1) s.2, s.2), rfl, HT1.out, HS0.out⟩
  case round =>
    obtain ⟨F, G, s, r, rfl, hW, hS⟩ := hrel
    have HW := Lib.hid hW
    have HS := Lib.hid hS
    clear hW hS
    obtain ⟨we, rfl⟩ : ∃ we : World, we = wr := ⟨_, rfl⟩
    obtain ⟨n2, hn2⟩ : ∃ n2, n2 = (ents s.1).length := ⟨_, rfl⟩
    have hp2 : 0 < n2 := by rw [hn2]; exact entsLen_pos HW.out.h1.1
    have hn2b : n2 ≤ 1000 := by rw [hn2, ents_len]; exact HW.out.h1.1.le
    have hs1 := save_any HW.out.h1
    have hs2 := fun w' (hb : Below we.heap.size we w') => two_save (HW.out.stay hb) HS.out
    unfold RetV at hs1 hs2
    rw [← hn2] at hs1 hs2
    have HS1 := Lib.hid hs1
    have HS2 := Lib.hid hs2
    have HN2 := Lib.hid hn2
    clear hs1 hs2 hn2
    go_wp2_with (first
      | (go_at_call 19; ((with_reducible refine HS1.out.mono ?_); rintro e w6 ⟨v6, rfl, hv6, hB6⟩; obtain ⟨g6, c6, rfl, _⟩ := hv6.form hp2; have HV6 := Lib.hid hv6; have HB6 := Lib.hid hB6; clear hv6 hB6))
      | (go_at_call 19; ((with_reducible refine (HS2.out w6 HB6.out).mono ?_); rintro e w7 ⟨v7, rfl, hv7, hB7⟩; obtain ⟨g7, c7, rfl, _⟩ := hv7.form hp2; have HV7 := Lib.hid hv7; have HB7 := Lib.hid hB7; clear hv7 hB7)))
    have hE6 := (EntsAt.of HV6.out HN2.out).below HB7.out (Nat.le_refl _)
    have hE7 := EntsAt.of HV7.out HN2.out
    have HE6 := Lib.hid hE6
    have HE7 := Lib.hid hE7
    clear hE6 hE7
    go_loopw [245] (fun i wx => ∃ j d : Nat, j ≤ n2 ∧ i = .int .i64 j ∧ wx = w7.drewN d) (fun i _ => n2 - (intOf i).toNat)
    case atStart => exact ⟨0, 0, by omega, rfl, rfl⟩
    case round =>
      obtain ⟨j, d, hj, rfl, rfl⟩ := hrel
      by_cases hjn : j < n2
      · obtain ⟨y, hy⟩ : ∃ y, (ents s.1)[j]? = some y := ⟨_, List.getElem?_eq_getElem (by rw [← HN2.out]; exact hjn)⟩
        obtain ⟨c10, c11, c12, c13⟩ := HE6.out.c j y hy
        obtain ⟨c20, c21, c22, c23⟩ := HE7.out.c j y hy
        have b4 : (0 : Int) ≤ (j : Int) := by omega
        have b5 : (j : Int) < (n2 : Int) := by omega
        clear hy
        go_wp2_with (fail)
        go_quiet (fail)
        go_wp2_with (fail)
        go_roundw
        case rel => exact ⟨j + 1, d + nq, by omega, by go_num, rfl⟩
        case measure => simp [intOf]; omega
      · have b5 : ¬ ((j : Int) < (n2 : Int)) := by omega
        go_wp2_with (fail)
        go_ret
        exact ⟨rfl, below_drewN (below_on (below_on HW.out.b HB6.out HW.out.b.size) HB7.out (below_on HW.out.b HB6.out HW.out.b.size).size) _⟩
theorem saves_any {w : World} {v0 v2 : Value} (h0 : ActsIn w v0) (o : Nat) (ho : o ≤ 255) (h2 : ActsIn w v2) : Calls Try.prog 7 #[v0, .int .u8 o, v2] w (TrueR4 w) := by
  rcases h2 with rfl | ⟨a, n, c, K, A, rfl, hA, hn⟩
  · exact saves_nil w v0 (acted_in h0) o ho
  · exact saves_some w v0 (acted_in h0) o ho a n c K A hA hn
end Go.Proofs.Ythneinepdbkgeaa
