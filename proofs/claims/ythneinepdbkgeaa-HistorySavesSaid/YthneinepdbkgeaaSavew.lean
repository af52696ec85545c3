/- The walk of HistorySaves. -/
import Derived.Test.YthneinepdbkgeaaSavep
import Derived.Deep.CutBlock
import Derived.Deep.CutRange
import Derived.Deep.RegionWith
import Derived.Deep.QuietTactic
import Derived.BigQuiet
namespace Go.Proofs.Ythneinepdbkgeaa
open Go.RowKit Go.HK
set_option linter.unusedVariables false
set_option linter.unusedSimpArgs false
set_option linter.unusedSectionVars false
theorem entsLen_pos {nodes : List Go.HK.HN} {now : Nat} (h : WF nodes now) : 0 < (ents nodes).length := by rw [ents_len]; exact h.pos
theorem right_acts {nodes : List Go.HK.HN} {now k x : Nat} {NS : List Nat} {SS : List ByteArray} (h : WF nodes now) (ha : Ac k nodes NS SS) (hx : x < nodes.length) : Right (ents nodes) (x : Int) := by
  refine ⟨by omega, by rw [ents_len]; omega, fun j y hj => ?_⟩
  have hjl := (List.getElem?_eq_some_iff.1 hj).1
  rw [ents_len] at hjl
  rw [ents_get hjl] at hj
  cases hj
  unfold okAt entF
  split
  · rename_i h0
    subst h0
    exact ⟨h.root, ha.rn, ha.rt⟩
  · rename_i h0
    have hp := h.par j (by omega) hjl
    have hu := ha.up j (by omega) hjl
    exact ⟨hp.1, hp.2, _, ents_get (show (parF nodes j).toNat < nodes.length by omega), by simp only [entF]; omega, fun e => hu.1 e.symm⟩
theorem short_acts {nodes : List Go.HK.HN} {k : Nat} {NS : List Nat} {SS : List ByteArray} (ha : Ac k nodes NS SS) : Short (ents nodes) := fun j y hj => by
  have hjl := (List.getElem?_eq_some_iff.1 hj).1
  rw [ents_len] at hjl
  rw [ents_get hjl] at hj
  cases hj
  have := ha.sz j hjl
  exact ⟨by simp only [entF]; omega, ha.sn j hjl⟩
theorem ents_openN {es : List Ent} {x : Nat} (hR : Right es (x : Int)) (hle : es.length ≤ 1000) : ents (openN es x) = es := by
  have h := (addAll_take hR hle es.length (Nat.le_refl _)).1
  rw [List.take_length] at h
  rw [openN, ents_lead, h]
theorem led_openN {es : List Ent} {x : Nat} (hR : Right es (x : Int)) (hle : es.length ≤ 1000) : Led (openN es x) x := by
  have hx := hR.2.1
  have h := addAll_take hR hle es.length (Nat.le_refl _)
  rw [List.take_length] at h
  exact Led.lead (h.2.2 (by omega)) (by rw [h.2.1]; omega)
theorem ents_get_state {nodes : List Go.HK.HN} {w : World} {g x : Nat} (h : EntsAt w g (ents nodes)) (hx : x < nodes.length) : w.cell? ⟨g, x * 4 + 3, none⟩ = some (.string (stateF nodes x)) := (h.c x _ (ents_get hx)).2.2.2
def TrueR4 (w : World) (e : Ending) (w' : World) : Prop := e = .returned (.bool true) ∧ Below w.heap.size w w'
set_option maxRecDepth 100000 in
set_option maxHeartbeats 16000000 in
theorem saves_some (w : World) (v0 : Value) (hacted : ∀ w', Below w.heap.size w w' → Calls Try.prog 13 #[v0] w' (ActedR w')) (o : Nat) (ho : o ≤ 255) (a : Addr) (n c : Nat) (K A : Nat → Nat) (hact : ActsAt w a n K A) (hn : n ≤ 9223372036854775807) : Calls Try.prog 7 #[v0, .int .u8 o, .slice (some a) n c] w (TrueR4 w) := by
  have HA := Lib.hid hacted
  have HT := Lib.hid hact
  clear hacted hact
  go_enter Try.func7, Try.ntmps7
  go_upto_region 7 with (first
    | (go_at_call 12; refine (awake_any _).mono ?_; rintro e w1 ⟨rfl, hB1⟩)
    | (go_at_call 13; refine (HA.out _ hB1).mono ?_; rintro e w2 ⟨t, F, s, m, NS, SS, p, q, rfl, hW, hAc, hL, hm0, hm1⟩)
    | (go_at_call 19; refine (save_any hW.h).mono ?_; rintro e w3 ⟨v, rfl, hv, hB3⟩; obtain ⟨gv, cv, rfl, _⟩ := hv.form (entsLen_pos hW.h.1)))
  obtain ⟨n1, hn1⟩ : ∃ n1, n1 = (ents s.1).length := ⟨_, rfl⟩
  rw [← hn1] at hv ⊢
  have hn1b : n1 ≤ 1000 := by rw [hn1, ents_len]; exact hW.h.1.le
  have hn1p : 0 < n1 := by rw [hn1]; exact entsLen_pos hW.h.1
  have hnl : n1 = s.1.length := by rw [hn1, ents_len]
  have hE := EntsAt.of hv hn1
  obtain ⟨x, hx⟩ : ∃ x, x = o % n1 := ⟨_, rfl⟩
  have hxl : x < n1 := by rw [hx]; exact Nat.mod_lt _ hn1p
  have rx : (IntKind.i64.wrap (o : Int)).tmod (n1 : Int) = (x : Int) := by rw [hx]; exact rem_small o n1 ho
  have rx2 : (o : Int) % (n1 : Int) = (x : Int) := by rw [hx]; simp
  have hRn := right_acts hW.h.1 hAc hW.h.1.now
  have hRx := right_acts hW.h.1 hAc (x := x) (by omega)
  have hSh := short_acts hAc
  have HE := Lib.hid hE
  have HN1 := Lib.hid hn1
  have HNL := Lib.hid hnl
  have HRN := Lib.hid hRn
  have HRX := Lib.hid hRx
  have HSH := Lib.hid hSh
  have HW := Lib.hid (hW.stay hB3)
  have HWF := Lib.hid hW.h.1
  have HAC := Lib.hid hAc
  have HB1 := Lib.hid hB1
  have l0 : ¬ ((n1 : Int) = 0) := by omega
  have l1 : ¬ (n1 = 0) := by omega
  clear hW hAc hL hB1 hB3 hv hm0 hm1 hn1 hnl hE hx hRn hRx hSh
  go_upto_region 11 with (first
    | (go_at_call 27; ((with_reducible refine (open_yes w3 gv n1 cv (ents s.1) s.2 HE.out HN1.out.symm hn1b HSH.out HRN.out).mono ?_); rintro e w4 ⟨u, G, rfl, hU, hB4, hG⟩; have HU := Lib.hid hU; have HB4 := Lib.hid hB4; have HG := Lib.hid hG; clear hU hB4 hG))
    | (go_at_call 27; ((with_reducible refine (open_yes w4 gv n1 cv (ents s.1) x (HE.out.below HB4.out (Nat.le_refl _)) HN1.out.symm hn1b HSH.out HRX.out).mono ?_); rintro e w5 ⟨z, Z, rfl, hZ, hB5, _⟩; have HZ := Lib.hid hZ; have HB5 := Lib.hid hB5; clear hZ hB5)))
  have hlR : (ents s.1).length ≤ 1000 := by rw [← HN1.out]; exact hn1b
  have hzs : stateF (openN (ents s.1) x) x = stateF s.1 x := by rw [stateF_ents, ents_openN HRX.out hlR, ← stateF_ents]
  have hnow := now_any HZ.out
  rw [hzs] at hnow
  have HNOW := Lib.hid hnow
  have c3 : ∀ w', Below w5.heap.size w5 w' → w'.cell? ⟨gv, x * 4 + 3, none⟩ = some (.string (stateF s.1 x)) := fun w' hb =>
    ents_get_state (((HE.out.below HB4.out (Nat.le_refl _)).below HB5.out (Nat.le_refl _)).below hb (Nat.le_refl _)) (by rw [← HNL.out]; exact hxl)
  have C3 := Lib.hid c3
  have b0 : (0 : Int) ≤ (x : Int) := by omega
  have b1 : (x : Int) < (n1 : Int) := by omega
  have hT0 : TwW w t u F G s (openN (ents s.1) s.2, s.2) w5 := by
    have h1 := HW.out
    refine ⟨?_, ?_, ?_, fun k hk => Nat.le_trans HB1.out.size (h1.f k hk), fun k hk => ?_, fun k hk hg => ?_⟩
    · exact ((h1.stay HB4.out).stay HB5.out).h
    · exact HU.out.stay (Frm.of_below HB5.out (fun _ => False)) (fun _ _ => id)
    · exact HB1.out.trans (((h1.stay HB4.out).stay HB5.out).b.mono HB1.out.size)
    · have h2 := (HB1.out.trans (h1.b.mono HB1.out.size)).size
      have := HG.out k hk
      omega
    · have := HG.out k hg
      have := h1.h.lt k hk
      omega
  have hS0 : Sim s (openN (ents s.1) s.2, s.2) := ⟨(ents_openN HRN.out hlR).symm, rfl, led_openN HRN.out hlR⟩
  have HT0 := Lib.hid hT0
  have HS0 := Lib.hid hS0
  clear hnow hzs c3 hT0 hS0
  go_upto_region 14 with (go_at_call 14; ((with_reducible refine HNOW.out.mono ?_); rintro e w6 ⟨rfl, hB6⟩; have c6 := C3.out w6 hB6; have HB6 := Lib.hid hB6; clear hB6))
  have hT1 := HT0.out.stay HB6.out
  have HT1 := Lib.hid hT1
  clear hT1 rx rx2 c6
  go_wp2_with (fail)
  go_loopw [19] (fun i wr => ∃ (k : Nat) (F G : List Nat) (s r : HS), k ≤ 20 ∧ k ≤ n ∧ i = .int .i64 k ∧ TwW w t u F G s r wr ∧ Sim s r) (fun i _ => 20 - (intOf i).toNat)
  case atStart => exact ⟨0, F, G, s, (openN (ents s.1) s.2, s.2), by omega, by omega, rfl, HT1.out, HS0.out⟩
  case round =>
    obtain ⟨k, F, G, s, r, hk20, hkn, rfl, hW, hS⟩ := hrel
    have HW := Lib.hid hW
    have HS := Lib.hid hS
    clear hW hS
    by_cases hc : k < n ∧ k < 20
    · obtain ⟨h1, h2⟩ := hc
      obtain ⟨cK, cA, bK, bA⟩ := HT.out k h1
      have cK2 : wr.cell? (a.add (k * 2)) = some (.int .u8 (K k)) := (HW.out.b.cell (World.block_lt_of_cell? w _ cK)).trans cK
      have cA2 : wr.cell? ⟨(a.add (k * 2)).block, (a.add (k * 2)).off + 1, none⟩ = some (.int .u8 (A k)) := by
        show wr.cell? ((a.add (k * 2)).add 1) = _
        rw [Go.Deep.add_add]
        exact (HW.out.b.cell (World.block_lt_of_cell? w _ cA)).trans cA
      have HCA := Lib.hid cA
      have HCA := Lib.hid cA
      have HCA := Lib.hid cA
      have HCA := Lib.hid cA
      have HCA := Lib.hid cA
      have HCA := Lib.hid cA
      have HCA := Lib.hid cA
      clear cK cA
      have d1 : decide (k < n) = true := decide_eq_true h1
      have d2 : decide ((k : Int) < 20) = true := decide_eq_true (by omega)
      have b0 : (0 : Int) ≤ (k : Int) := by omega
      have b1 : (k : Int) < (n : Int) := by omega
      go_upto_block 2 with (fail)
      go_cut [20, 21, 22, 23, 24] from 95 to 222 (fun a b x y z wx => SvR w t u a b x y wx)
      case first =>
        have hkk : K k % 4 = 0 ∨ K k % 4 = 1 ∨ K k % 4 = 2 ∨ K k % 4 = 3 := by omega
        rcases hkk with hkk | hkk | hkk | hkk
        · have e4 : (K k : Int) % 4 = 0 := by omega
          obtain ⟨bb, hbb, hb6⟩ : ∃ bb : Nat, (A k : Int) % 6 = (bb : Int) ∧ bb < 6 := ⟨A k % 6, by omega, by omega⟩
          obtain ⟨st, hst, hsz⟩ : ∃ st, Utf8.encode (97 + bb) = st ∧ st.size ≤ 16384 := ⟨_, rfl, by
            have : bb = 0 ∨ bb = 1 ∨ bb = 2 ∨ bb = 3 ∨ bb = 4 ∨ bb = 5 := by omega
            rcases this with rfl | rfl | rfl | rfl | rfl | rfl <;> decide +kernel⟩
          have HSZ := Lib.hid hsz
          have b6 : (bb : Int) < 6 := by omega
          have b7 : (0 : Int) ≤ (bb : Int) := by omega
          clear hkk hsz
          go_wp2_with (first
            | (go_at_call 17; ((with_reducible refine (one_do HW.out st _ HSZ.out).mono ?_); rintro e w4 ⟨a4, rfl, F4, hW4⟩; have HW4 := Lib.hid hW4; clear hW4))
            | (go_at_call 17; ((with_reducible refine (two_do HW4.out st _ HSZ.out).mono ?_); rintro e w5 ⟨a5, rfl, G5, hW5⟩; have HW5 := Lib.hid hW5; clear hW5)))
          go_meet
          case rel => exact ⟨_, _, _, _, _, _, rfl, rfl, rfl, by rw [HS.out.do1], HW5.out, HS.out.do2 HW.out.h2.1 _ _⟩
        · have e4 : (K k : Int) % 4 = 1 := by omega
          obtain ⟨bb, hbb, hb6⟩ : ∃ bb : Nat, (A k : Int) % 6 = (bb : Int) ∧ bb < 6 := ⟨A k % 6, by omega, by omega⟩
          obtain ⟨st, hst, hsz⟩ : ∃ st, Utf8.encode (97 + bb) = st ∧ st.size ≤ 16384 := ⟨_, rfl, by
            have : bb = 0 ∨ bb = 1 ∨ bb = 2 ∨ bb = 3 ∨ bb = 4 ∨ bb = 5 := by omega
            rcases this with rfl | rfl | rfl | rfl | rfl | rfl <;> decide +kernel⟩
          have HSZ := Lib.hid hsz
          have b6 : (bb : Int) < 6 := by omega
          have b7 : (0 : Int) ≤ (bb : Int) := by omega
          clear hkk hsz
          go_wp2_with (first
            | (go_at_call 17; ((with_reducible refine (one_do HW.out st _ HSZ.out).mono ?_); rintro e w4 ⟨a4, rfl, F4, hW4⟩; have HW4 := Lib.hid hW4; clear hW4))
            | (go_at_call 17; ((with_reducible refine (two_do HW4.out st _ HSZ.out).mono ?_); rintro e w5 ⟨a5, rfl, G5, hW5⟩; have HW5 := Lib.hid hW5; clear hW5)))
          go_meet
          case rel => exact ⟨_, _, _, _, _, _, rfl, rfl, rfl, by rw [HS.out.do1], HW5.out, HS.out.do2 HW.out.h2.1 _ _⟩
        · have e4 : (K k : Int) % 4 = 2 := by omega
          clear hkk
          go_wp2_with (first
            | (go_at_call 15; ((with_reducible refine (one_undo HW.out).mono ?_); rintro e w4 ⟨rfl, F4, hW4⟩; have HW4 := Lib.hid hW4; clear hW4))
            | (go_at_call 15; ((with_reducible refine (two_undo HW4.out).mono ?_); rintro e w5 ⟨rfl, G5, hW5⟩; have HW5 := Lib.hid hW5; clear hW5)))
          go_meet
          case rel => exact ⟨_, _, _, _, _, _, rfl, by rw [HS.out.undo1], rfl, by rw [HS.out.undo1], HW5.out, HS.out.undo2 HW.out.h2.1⟩
        · have e4 : (K k : Int) % 4 = 3 := by omega
          clear hkk
          obtain ⟨L, hL⟩ : ∃ L, s.1.length = L := ⟨_, rfl⟩
          have hpos := HW.out.h1.1.pos
          rw [hL] at hpos
          have l0 : ¬ ((L : Int) = 0) := by omega
          have l1 : ¬ (L = 0) := by omega
          have HL := Lib.hid hL
          have hxx : A k % L < s.1.length := by rw [hL]; exact Nat.mod_lt _ (by omega)
          have hxr : A k % L < r.1.length := by rw [← HS.out.len]; exact hxx
          have HXX := Lib.hid hxx
          have HXR := Lib.hid hxr
          clear hL hpos hxx hxr
          go_wp2_with (fail)
          go_region_with (first
            | (go_at_call 20; refine (len_lit L HL.out HW.out.h1.drew).mono ?_; rintro e w3 ⟨rfl, rfl⟩)
            | (go_at_call 18; refine (one_go (HW.out.stay ((Below.refl _ wr).drew)) _ (A k % L) (rem_small _ _ bA) HXX.out).mono ?_; rintro e w4 ⟨rfl, F4, hW4⟩; have HW4 := Lib.hid hW4; clear hW4))
          all_goals (
            simp only [Exit.inBlock, Exit.then]
            go_simp
            go_wp2_with (fail)
            have hlg : (goS s (A k % L)).1.length = L := by rw [← HL.out]; exact lead_length _ _
            have HLG := Lib.hid hlg
            have cA4 : w4.cell? ⟨(a.add (k * 2)).block, (a.add (k * 2)).off + 1, none⟩ = some (.int .u8 (A k)) := by
              show w4.cell? ((a.add (k * 2)).add 1) = _
              rw [Go.Deep.add_add]
              exact (HW4.out.b.cell (World.block_lt_of_cell? w _ HCA.out)).trans HCA.out
            clear hlg
            go_region_with (first
              | (go_at_call 20; refine (len_lit L HLG.out HW4.out.h1.drew).mono ?_; rintro e w3 ⟨rfl, rfl⟩)
              | (go_at_call 18; refine (two_go (HW4.out.stay ((Below.refl _ w4).drew)) _ (A k % L) (rem_small _ _ bA) HXR.out).mono ?_; rintro e w5 ⟨rfl, G5, hW5⟩; have HW5 := Lib.hid hW5; clear hW5))
            all_goals (
              simp only [Exit.inBlock, Exit.then]
              go_simp
              go_wp2_with (fail)
              go_meet
              case rel => exact ⟨_, _, _, _, _, _, rfl, by rw [HS.out.state], rfl, rfl, HW5.out, HS.out.go HW.out.h2.1 HXR.out⟩))
      case rest =>
        obtain ⟨AA, E, F5, G5, s5, r5, rfl, rfl, rfl, rfl, hW5, hS5⟩ := hcut
        have HW5 := Lib.hid hW5
        have HS5 := Lib.hid hS5
        clear hW5 hS5 cK2 cA2
        by_cases h0 : r5.2 = 0
        · have H0 := Lib.hid h0
          clear h0
          go_wp2_with (first
            | (go_at_call 14; ((with_reducible refine (now_any HW5.out.h1).mono ?_); rintro e w6 ⟨rfl, hB6⟩; have HW6 := Lib.hid (HW5.out.stay hB6); clear hB6))
            | (go_at_call 14; ((with_reducible refine (two_now HW6.out HS5.out.n).mono ?_); rintro e w7 ⟨rfl, hB7⟩; have HW7 := Lib.hid (HW6.out.stay hB7); clear hB7))
            | (go_at_call 15; ((with_reducible refine (two_root HW7.out H0.out).mono ?_); rintro e w8 ⟨rfl, rfl⟩)))
          go_roundw
          case rel => exact ⟨k + 1, F5, G5, s5, r5, by omega, by omega, by go_num, HW7.out, HS5.out⟩
          case measure => simp [intOf]; omega
        · have H0 := Lib.hid h0
          clear h0
          go_wp2_with (first
            | (go_at_call 14; ((with_reducible refine (now_any HW5.out.h1).mono ?_); rintro e w6 ⟨rfl, hB6⟩; have HW6 := Lib.hid (HW5.out.stay hB6); clear hB6))
            | (go_at_call 14; ((with_reducible refine (two_now HW6.out HS5.out.n).mono ?_); rintro e w7 ⟨rfl, hB7⟩; have HW7 := Lib.hid (HW6.out.stay hB7); clear hB7))
            | (go_at_call 15; ((with_reducible refine (two_up HW7.out H0.out).mono ?_); rintro e w8 ⟨A8, rfl, G8, hW8⟩; have HW8 := Lib.hid hW8; clear hW8))
            | (go_at_call 16; ((refine (two_down HW7.out.h2.1 HS5.out.l HW8.out H0.out).mono ?_); rintro e w9 ⟨rfl, G9, hW9⟩; have HW9 := Lib.hid hW9; clear hW9)))
          go_roundw
          case rel => exact ⟨k + 1, F5, G9, s5, r5, by omega, by omega, by go_num, HW9.out, HS5.out⟩
          case measure => simp [intOf]; omega
    · have hd : (k < n ∧ ¬ k < 20) ∨ ¬ k < n := by omega
      obtain ⟨we, rfl⟩ : ∃ we : World, we = wr := ⟨_, rfl⟩
      clear hc
      rcases hd with ⟨h1, h2⟩ | h1
      · have d1 : decide (k < n) = true := decide_eq_true h1
        have d2 : decide ((k : Int) < 20) = false := decide_eq_false (by omega)
        clear h1 h2
        obtain ⟨n2, hn2⟩ : ∃ n2, n2 = (ents s.1).length := ⟨_, rfl⟩
        have hp2 : 0 < n2 := by rw [hn2]; exact entsLen_pos HW.out.h1.1
        have hn2b : n2 ≤ 1000 := by rw [hn2, ents_len]; exact HW.out.h1.1.le
        have hs1 := save_any HW.out.h1
        have hs2 := fun w' (hb : Below we.heap.size we w') => two_save (HW.out.stay hb) HS.out
        unfold RetV at hs1 hs2
        rw [← hn2] at hs1 hs2
        have HS1 := Lib.hid hs1
        have HS2 := Lib.hid hs2
        have HN2 := Lib.hid hn2
        clear hs1 hs2 hn2
        go_wp2_with (first
          | (go_at_call 19; ((with_reducible refine HS1.out.mono ?_); rintro e w6 ⟨v6, rfl, hv6, hB6⟩; obtain ⟨g6, c6, rfl, _⟩ := hv6.form hp2; have HV6 := Lib.hid hv6; have HB6 := Lib.hid hB6; clear hv6 hB6))
          | (go_at_call 19; ((with_reducible refine (HS2.out w6 HB6.out).mono ?_); rintro e w7 ⟨v7, rfl, hv7, hB7⟩; obtain ⟨g7, c7, rfl, _⟩ := hv7.form hp2; have HV7 := Lib.hid hv7; have HB7 := Lib.hid hB7; clear hv7 hB7)))
        have hE6 := (EntsAt.of HV6.out HN2.out).below HB7.out (Nat.le_refl _)
        have hE7 := EntsAt.of HV7.out HN2.out
        have HE6 := Lib.hid hE6
        have HE7 := Lib.hid hE7
        clear hE6 hE7
        go_loopw [245] (fun i wx => ∃ j d : Nat, j ≤ n2 ∧ i = .int .i64 j ∧ wx = w7.drewN d) (fun i _ => n2 - (intOf i).toNat)
        case atStart => exact ⟨0, 0, by omega, rfl, rfl⟩
        case round =>
          obtain ⟨j, d, hj, rfl, rfl⟩ := hrel
          by_cases hjn : j < n2
          · obtain ⟨y, hy⟩ : ∃ y, (ents s.1)[j]? = some y := ⟨_, List.getElem?_eq_getElem (by rw [← HN2.out]; exact hjn)⟩
            obtain ⟨c10, c11, c12, c13⟩ := HE6.out.c j y hy
            obtain ⟨c20, c21, c22, c23⟩ := HE7.out.c j y hy
            have b4 : (0 : Int) ≤ (j : Int) := by omega
            have b5 : (j : Int) < (n2 : Int) := by omega
            clear hy
            go_wp2_with (fail)
            go_quiet (fail)
            go_wp2_with (fail)
            go_roundw
            case rel => exact ⟨j + 1, d + nq, by omega, by go_num, rfl⟩
            case measure => simp [intOf]; omega
          · have b5 : ¬ ((j : Int) < (n2 : Int)) := by omega
            go_wp2_with (fail)
            go_ret
            exact ⟨rfl, below_drewN (below_on (below_on HW.out.b HB6.out HW.out.b.size) HB7.out (below_on HW.out.b HB6.out HW.out.b.size).size) _⟩
      · have d1 : decide (k < n) = false := decide_eq_false h1
        clear h1
        obtain ⟨n2, hn2⟩ : ∃ n2, n2 = (ents s.1).length := ⟨_, rfl⟩
        have hp2 : 0 < n2 := by rw [hn2]; exact entsLen_pos HW.out.h1.1
        have hn2b : n2 ≤ 1000 := by rw [hn2, ents_len]; exact HW.out.h1.1.le
        have hs1 := save_any HW.out.h1
        have hs2 := fun w' (hb : Below we.heap.size we w') => two_save (HW.out.stay hb) HS.out
        unfold RetV at hs1 hs2
        rw [← hn2] at hs1 hs2
        have HS1 := Lib.hid hs1
        have HS2 := Lib.hid hs2
        have HN2 := Lib.hid hn2
        clear hs1 hs2 hn2
        go_wp2_with (first
          | (go_at_call 19; ((with_reducible refine HS1.out.mono ?_); rintro e w6 ⟨v6, rfl, hv6, hB6⟩; obtain ⟨g6, c6, rfl, _⟩ := hv6.form hp2; have HV6 := Lib.hid hv6; have HB6 := Lib.hid hB6; clear hv6 hB6))
          | (go_at_call 19; ((with_reducible refine (HS2.out w6 HB6.out).mono ?_); rintro e w7 ⟨v7, rfl, hv7, hB7⟩; obtain ⟨g7, c7, rfl, _⟩ := hv7.form hp2; have HV7 := Lib.hid hv7; have HB7 := Lib.hid hB7; clear hv7 hB7)))
        have hE6 := (EntsAt.of HV6.out HN2.out).below HB7.out (Nat.le_refl _)
        have hE7 := EntsAt.of HV7.out HN2.out
        have HE6 := Lib.hid hE6
        have HE7 := Lib.hid hE7
        clear hE6 hE7
        go_loopw [245] (fun i wx => ∃ j d : Nat, j ≤ n2 ∧ i = .int .i64 j ∧ wx = w7.drewN d) (fun i _ => n2 - (intOf i).toNat)
        case atStart => exact ⟨0, 0, by omega, rfl, rfl⟩
        case round =>
          obtain ⟨j, d, hj, rfl, rfl⟩ := hrel
          by_cases hjn : j < n2
          · obtain ⟨y, hy⟩ : ∃ y, (ents s.1)[j]? = some y := ⟨_, List.getElem?_eq_getElem (by rw [← HN2.out]; exact hjn)⟩
            obtain ⟨c10, c11, c12, c13⟩ := HE6.out.c j y hy
            obtain ⟨c20, c21, c22, c23⟩ := HE7.out.c j y hy
            have b4 : (0 : Int) ≤ (j : Int) := by omega
            have b5 : (j : Int) < (n2 : Int) := by omega
            clear hy
            go_wp2_with (fail)
            go_quiet (fail)
            go_wp2_with (fail)
            go_roundw
            case rel => exact ⟨j + 1, d + nq, by omega, by go_num, rfl⟩
            case measure => simp [intOf]; omega
          · have b5 : ¬ ((j : Int) < (n2 : Int)) := by omega
            go_wp2_with (fail)
            go_ret
            exact ⟨rfl, below_drewN (below_on (below_on HW.out.b HB6.out HW.out.b.size) HB7.out (below_on HW.out.b HB6.out HW.out.b.size).size) _⟩
end Go.Proofs.Ythneinepdbkgeaa
