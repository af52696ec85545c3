/- The walk of HistoryOther. -/
import Derived.Test.YthneinepdbkgeaaOtw
import Derived.Deep.CutBlock
import Derived.Deep.CutRange
import Derived.Deep.RegionWith
namespace Go.Proofs.Ythneinepdbkgeaa
open Go.RowKit Go.HK
set_option linter.unusedVariables false
set_option linter.unusedSimpArgs false
set_option linter.unusedSectionVars false
theorem ents_length (nodes : List Go.HK.HN) : (ents nodes).length = nodes.length := by simp [ents]
theorem ents_pos {nodes : List Go.HK.HN} {now : Nat} (h : WF nodes now) : 0 < (ents nodes).length := by rw [ents_length]; exact h.pos
def TrueR2 (w : World) (e : Ending) (w' : World) : Prop := e = .returned (.bool true) ∧ Below w.heap.size w w'
set_option maxRecDepth 100000 in
set_option maxHeartbeats 8000000 in
theorem other_some (w : World) (v0 : Value) (hacted : ∀ w', Below w.heap.size w w' → Calls Try.prog 13 #[v0] w' (ActedR w')) (a : Addr) (n c : Nat) (K A : Nat → Nat) (hact : ActsAt w a n K A) (hn : n ≤ 9223372036854775807) : Calls Try.prog 4 #[v0, .slice (some a) n c] w (TrueR2 w) := by
  have HA := Lib.hid hacted
  have HT := Lib.hid hact
  clear hacted hact
  go_enter Try.func4, Try.ntmps4
  go_wp2_with (first
    | (go_at_call 12; refine (awake_any _).mono ?_; rintro e w1 ⟨rfl, hB1⟩)
    | (go_at_call 13; refine (HA.out _ hB1).mono ?_; rintro e w2 ⟨t, F, s, m, NS, SS, p, q, rfl, hW, hAc, hL, hm0, hm1⟩)
    | (go_at_call 19; refine (save_any hW.h).mono ?_; rintro e w3 ⟨v, rfl, hv, hB3⟩; obtain ⟨gv, cv, rfl, _⟩ := hv.form (ents_pos hW.h.1)))
  obtain ⟨n1, hn1⟩ : ∃ n1, n1 = (ents s.1).length := ⟨_, rfl⟩
  rw [← hn1] at hv ⊢
  have hn1b : n1 ≤ 1000 := by rw [hn1, ents_length]; exact hW.h.1.le
  have HN1 := Lib.hid hn1
  have hO : OtW w1 t F s (.slice (some ⟨gv, 0, none⟩) n1 cv) (ents s.1) w3 := ⟨(hW.stay hB3).h, (hW.stay hB3).b, hW.f, by rw [← HN1.out]; exact owns_mono hv hW.b.size, fun g hg hf => by have h1 := own_ge hv g hg; have h2 := hW.h.lt g hf; omega⟩
  have HAc := Lib.hid hAc
  have HB1 := Lib.hid hB1
  clear hW hAc hL hB1 hB3 hv hm0 hm1 hn1
  go_loopw [11] (fun i wr => ∃ (k : Nat) (F : List Nat) (s' : HS), k ≤ 60 ∧ k ≤ n ∧ i = .int .i64 k ∧ OtW w1 t F s' (.slice (some ⟨gv, 0, none⟩) n1 cv) (ents s.1) wr ∧ Ext s.1 s'.1) (fun i _ => 60 - (intOf i).toNat)
  case atStart => exact ⟨0, F, s, by omega, by omega, rfl, hO, Ext.refl _⟩
  case round =>
    clear hO
    obtain ⟨k, F, s', hk60, hkn, rfl, hW, hE⟩ := hrel
    have HW := Lib.hid hW
    have HE := Lib.hid hE
    clear hW hE
    by_cases hc : k < n ∧ k < 60
    · obtain ⟨h1, h2⟩ := hc
      obtain ⟨cK, cA, bK, bA⟩ := HT.out k h1
      have hb := HB1.out.trans (HW.out.b.mono HB1.out.size)
      have cK2 : wr.cell? (a.add (k * 2)) = some (.int .u8 (K k)) := (hb.cell (World.block_lt_of_cell? w _ cK)).trans cK
      have cA2 : wr.cell? ⟨(a.add (k * 2)).block, (a.add (k * 2)).off + 1, none⟩ = some (.int .u8 (A k)) := by
        show wr.cell? ((a.add (k * 2)).add 1) = _
        rw [Go.Deep.add_add]
        exact (hb.cell (World.block_lt_of_cell? w _ cA)).trans cA
      clear cK cA hb
      have d1 : decide ((k : Int) < (n : Int)) = true := by simpa using h1
      have d2 : decide ((k : Int) < 60) = true := decide_eq_true (by omega)
      have b0 : (0 : Int) ≤ (k : Int) := by omega
      have b1 : (k : Int) < (n : Int) := by omega
      have hkk : K k % 5 = 0 ∨ K k % 5 = 1 ∨ K k % 5 = 2 ∨ K k % 5 = 3 ∨ K k % 5 = 4 := by omega
      rcases hkk with hkk | hkk | hkk | hkk | hkk
      · have e5 : (K k : Int) % 5 = 0 := by omega
        have haa : A k % 6 = 0 ∨ A k % 6 = 1 ∨ A k % 6 = 2 ∨ A k % 6 = 3 ∨ A k % 6 = 4 ∨ A k % 6 = 5 := by omega
        clear hkk
        rcases haa with haa | haa | haa | haa | haa | haa
        · have a6 : (A k : Int) % 6 = 0 := by omega
          clear haa
          have u6 : Utf8.encode 97 = ⟨#[97]⟩ := by decide +kernel
          go_wp2_with (go_at_call 17; refine (other_do HW.out HE.out ⟨#[97]⟩ ⟨#[109, 111, 114, 101]⟩ 1000 (by decide) (by decide)).mono ?_; rintro e w6 ⟨ra, rb, rfl, hR⟩)
          obtain ⟨F6, s6, hW6, hE6⟩ := hR
          go_roundw
          case rel => exact ⟨k + 1, F6, s6, by omega, by omega, by go_num, hW6, hE6⟩
          case measure => simp [intOf]; omega
        · have a6 : (A k : Int) % 6 = 1 := by omega
          clear haa
          have u6 : Utf8.encode 98 = ⟨#[98]⟩ := by decide +kernel
          go_wp2_with (go_at_call 17; refine (other_do HW.out HE.out ⟨#[98]⟩ ⟨#[109, 111, 114, 101]⟩ 1000 (by decide) (by decide)).mono ?_; rintro e w6 ⟨ra, rb, rfl, hR⟩)
          obtain ⟨F6, s6, hW6, hE6⟩ := hR
          go_roundw
          case rel => exact ⟨k + 1, F6, s6, by omega, by omega, by go_num, hW6, hE6⟩
          case measure => simp [intOf]; omega
        · have a6 : (A k : Int) % 6 = 2 := by omega
          clear haa
          have u6 : Utf8.encode 99 = ⟨#[99]⟩ := by decide +kernel
          go_wp2_with (go_at_call 17; refine (other_do HW.out HE.out ⟨#[99]⟩ ⟨#[109, 111, 114, 101]⟩ 1000 (by decide) (by decide)).mono ?_; rintro e w6 ⟨ra, rb, rfl, hR⟩)
          obtain ⟨F6, s6, hW6, hE6⟩ := hR
          go_roundw
          case rel => exact ⟨k + 1, F6, s6, by omega, by omega, by go_num, hW6, hE6⟩
          case measure => simp [intOf]; omega
        · have a6 : (A k : Int) % 6 = 3 := by omega
          clear haa
          have u6 : Utf8.encode 100 = ⟨#[100]⟩ := by decide +kernel
          go_wp2_with (go_at_call 17; refine (other_do HW.out HE.out ⟨#[100]⟩ ⟨#[109, 111, 114, 101]⟩ 1000 (by decide) (by decide)).mono ?_; rintro e w6 ⟨ra, rb, rfl, hR⟩)
          obtain ⟨F6, s6, hW6, hE6⟩ := hR
          go_roundw
          case rel => exact ⟨k + 1, F6, s6, by omega, by omega, by go_num, hW6, hE6⟩
          case measure => simp [intOf]; omega
        · have a6 : (A k : Int) % 6 = 4 := by omega
          clear haa
          have u6 : Utf8.encode 101 = ⟨#[101]⟩ := by decide +kernel
          go_wp2_with (go_at_call 17; refine (other_do HW.out HE.out ⟨#[101]⟩ ⟨#[109, 111, 114, 101]⟩ 1000 (by decide) (by decide)).mono ?_; rintro e w6 ⟨ra, rb, rfl, hR⟩)
          obtain ⟨F6, s6, hW6, hE6⟩ := hR
          go_roundw
          case rel => exact ⟨k + 1, F6, s6, by omega, by omega, by go_num, hW6, hE6⟩
          case measure => simp [intOf]; omega
        · have a6 : (A k : Int) % 6 = 5 := by omega
          clear haa
          have u6 : Utf8.encode 102 = ⟨#[102]⟩ := by decide +kernel
          go_wp2_with (go_at_call 17; refine (other_do HW.out HE.out ⟨#[102]⟩ ⟨#[109, 111, 114, 101]⟩ 1000 (by decide) (by decide)).mono ?_; rintro e w6 ⟨ra, rb, rfl, hR⟩)
          obtain ⟨F6, s6, hW6, hE6⟩ := hR
          go_roundw
          case rel => exact ⟨k + 1, F6, s6, by omega, by omega, by go_num, hW6, hE6⟩
          case measure => simp [intOf]; omega
      · have e5 : (K k : Int) % 5 = 1 := by omega
        have haa : A k % 6 = 0 ∨ A k % 6 = 1 ∨ A k % 6 = 2 ∨ A k % 6 = 3 ∨ A k % 6 = 4 ∨ A k % 6 = 5 := by omega
        clear hkk
        rcases haa with haa | haa | haa | haa | haa | haa
        · have a6 : (A k : Int) % 6 = 0 := by omega
          clear haa
          have u6 : Utf8.encode 97 = ⟨#[97]⟩ := by decide +kernel
          go_wp2_with (go_at_call 17; refine (other_do HW.out HE.out ⟨#[97]⟩ ⟨#[109, 111, 114, 101]⟩ 1000 (by decide) (by decide)).mono ?_; rintro e w6 ⟨ra, rb, rfl, hR⟩)
          obtain ⟨F6, s6, hW6, hE6⟩ := hR
          go_roundw
          case rel => exact ⟨k + 1, F6, s6, by omega, by omega, by go_num, hW6, hE6⟩
          case measure => simp [intOf]; omega
        · have a6 : (A k : Int) % 6 = 1 := by omega
          clear haa
          have u6 : Utf8.encode 98 = ⟨#[98]⟩ := by decide +kernel
          go_wp2_with (go_at_call 17; refine (other_do HW.out HE.out ⟨#[98]⟩ ⟨#[109, 111, 114, 101]⟩ 1000 (by decide) (by decide)).mono ?_; rintro e w6 ⟨ra, rb, rfl, hR⟩)
          obtain ⟨F6, s6, hW6, hE6⟩ := hR
          go_roundw
          case rel => exact ⟨k + 1, F6, s6, by omega, by omega, by go_num, hW6, hE6⟩
          case measure => simp [intOf]; omega
        · have a6 : (A k : Int) % 6 = 2 := by omega
          clear haa
          have u6 : Utf8.encode 99 = ⟨#[99]⟩ := by decide +kernel
          go_wp2_with (go_at_call 17; refine (other_do HW.out HE.out ⟨#[99]⟩ ⟨#[109, 111, 114, 101]⟩ 1000 (by decide) (by decide)).mono ?_; rintro e w6 ⟨ra, rb, rfl, hR⟩)
          obtain ⟨F6, s6, hW6, hE6⟩ := hR
          go_roundw
          case rel => exact ⟨k + 1, F6, s6, by omega, by omega, by go_num, hW6, hE6⟩
          case measure => simp [intOf]; omega
        · have a6 : (A k : Int) % 6 = 3 := by omega
          clear haa
          have u6 : Utf8.encode 100 = ⟨#[100]⟩ := by decide +kernel
          go_wp2_with (go_at_call 17; refine (other_do HW.out HE.out ⟨#[100]⟩ ⟨#[109, 111, 114, 101]⟩ 1000 (by decide) (by decide)).mono ?_; rintro e w6 ⟨ra, rb, rfl, hR⟩)
          obtain ⟨F6, s6, hW6, hE6⟩ := hR
          go_roundw
          case rel => exact ⟨k + 1, F6, s6, by omega, by omega, by go_num, hW6, hE6⟩
          case measure => simp [intOf]; omega
        · have a6 : (A k : Int) % 6 = 4 := by omega
          clear haa
          have u6 : Utf8.encode 101 = ⟨#[101]⟩ := by decide +kernel
          go_wp2_with (go_at_call 17; refine (other_do HW.out HE.out ⟨#[101]⟩ ⟨#[109, 111, 114, 101]⟩ 1000 (by decide) (by decide)).mono ?_; rintro e w6 ⟨ra, rb, rfl, hR⟩)
          obtain ⟨F6, s6, hW6, hE6⟩ := hR
          go_roundw
          case rel => exact ⟨k + 1, F6, s6, by omega, by omega, by go_num, hW6, hE6⟩
          case measure => simp [intOf]; omega
        · have a6 : (A k : Int) % 6 = 5 := by omega
          clear haa
          have u6 : Utf8.encode 102 = ⟨#[102]⟩ := by decide +kernel
          go_wp2_with (go_at_call 17; refine (other_do HW.out HE.out ⟨#[102]⟩ ⟨#[109, 111, 114, 101]⟩ 1000 (by decide) (by decide)).mono ?_; rintro e w6 ⟨ra, rb, rfl, hR⟩)
          obtain ⟨F6, s6, hW6, hE6⟩ := hR
          go_roundw
          case rel => exact ⟨k + 1, F6, s6, by omega, by omega, by go_num, hW6, hE6⟩
          case measure => simp [intOf]; omega
      · have e5 : (K k : Int) % 5 = 2 := by omega
        clear hkk
        go_wp2_with (go_at_call 15; refine (other_undo HW.out HE.out).mono ?_; rintro e w6 ⟨ra, rb, rfl, hR⟩)
        obtain ⟨F6, s6, hW6, hE6⟩ := hR
        go_roundw
        case rel => exact ⟨k + 1, F6, s6, by omega, by omega, by go_num, hW6, hE6⟩
        case measure => simp [intOf]; omega
      · have e5 : (K k : Int) % 5 = 3 := by omega
        clear hkk
        go_wp2_with (go_at_call 16; refine (other_redo HW.out HE.out).mono ?_; rintro e w6 ⟨ra, rb, rfl, hR⟩)
        obtain ⟨F6, s6, hW6, hE6⟩ := hR
        go_roundw
        case rel => exact ⟨k + 1, F6, s6, by omega, by omega, by go_num, hW6, hE6⟩
        case measure => simp [intOf]; omega
      · have e5 : (K k : Int) % 5 = 4 := by omega
        clear hkk
        obtain ⟨L, hL⟩ : ∃ L, s'.1.length = L := ⟨_, rfl⟩
        have hpos := HW.out.h.1.pos
        rw [hL] at hpos
        have l0 : ¬ ((L : Int) = 0) := by omega
        have l1 : ¬ (L = 0) := by omega
        have HL := Lib.hid hL
        clear hL hpos
        go_wp2_with (fail)
        go_region_with (first
          | (go_at_call 20; refine (len_lit L HL.out HW.out.h.drew).mono ?_; rintro e w3 ⟨rfl, rfl⟩)
          | (go_at_call 18; refine (other_go (HW.out.stay ((Below.refl _ wr).drew)) HE.out _ (A k % L) (rem_small _ _ bA) (by rw [HL.out]; exact Nat.mod_lt _ (by omega))).mono ?_; rintro e w6 ⟨ra, rb, rfl, hR⟩))
        all_goals (
          simp only [Exit.inBlock, Exit.then]
          go_simp
          go_wp2_with (fail)
          obtain ⟨F6, s6, hW6, hE6⟩ := hR
          go_roundw
          case rel => exact ⟨k + 1, F6, s6, by omega, by omega, by go_num, hW6, hE6⟩
          case measure => simp [intOf]; omega)
    · have hd : (k < n ∧ ¬ k < 60) ∨ ¬ k < n := by omega
      clear hc
      rcases hd with ⟨h1, h2⟩ | h1
      · have d1 : decide (k < n) = true := decide_eq_true h1
        have d2 : decide ((k : Int) < 60) = false := decide_eq_false (by omega)
        clear h1 h2
        obtain ⟨n2, hn2⟩ : ∃ n2, n2 = (ents s'.1).length := ⟨_, rfl⟩
        have hs := save_any HW.out.h
        have hp2 := ents_pos HW.out.h.1
        have h12 : n1 ≤ n2 := by have := HE.out.len; rw [HN1.out, hn2, ents_length, ents_length]; exact this
        have hl2 : s'.1.length = n2 := by rw [hn2, ents_length]
        unfold RetV at hs
        rw [← hn2] at hs hp2
        have HS := Lib.hid hs
        have HN2 := Lib.hid hn2
        have HL2 := Lib.hid hl2
        have b3 : decide (n2 < n1) = false := decide_eq_false (by omega)
        clear hs hn2 hl2
        go_wp2_with (first
          | (go_at_call 19; refine HS.out.mono ?_; rintro e w6 ⟨v6, rfl, hv6, hB6⟩; obtain ⟨gi, ci, rfl, _⟩ := hv6.form hp2)
          | (go_at_call 20; refine (len_lit n2 HL2.out (HW.out.stay hB6).h).mono ?_; rintro e w7 ⟨rfl, rfl⟩))
        have hOw := HW.out.stay hB6
        have hv7 := owns_mono hv6 (Nat.zero_le _)
        have HO := Lib.hid hOw
        have HV7 := Lib.hid hv7
        clear hOw hv7 hv6 hB6
        go_loopw [101] (fun i wx => ∃ j d : Nat, j ≤ n1 ∧ i = .int .i64 j ∧ wx = w6.drewN d) (fun i _ => n1 - (intOf i).toNat)
        case atStart => exact ⟨0, 0, by omega, rfl, rfl⟩
        case round =>
          obtain ⟨j, d, hj, rfl, rfl⟩ := hrel
          by_cases hjn : j < n1
          · have hjs : j < s.1.length := by rw [HN1.out, ents_length] at hjn; exact hjn
            obtain ⟨x, hx⟩ : ∃ x, x = entF s.1 j := ⟨_, rfl⟩
            have g1 := ents_get hjs
            have g2 := ents_get (nodes := s'.1) (x := j) (Nat.lt_of_lt_of_le hjs HE.out.len)
            rw [HE.out.ent hjs] at g2
            rw [← hx] at g1 g2
            have c1 : ∀ i, i < 4 → w6.cell? ⟨gv, j * 4 + i, none⟩ = (entCells x)[i]? := fun i hi => by
              have := HO.out.vn
              rw [← HN1.out] at this
              rw [this.cellAt (j * 4 + i) (by omega)]
              exact entsFlat_get _ _ _ _ g1 hi
            have c2 : ∀ i, i < 4 → w6.cell? ⟨gi, j * 4 + i, none⟩ = (entCells x)[i]? := fun i hi => by
              rw [HV7.out.cellAt (j * 4 + i) (by omega)]
              exact entsFlat_get _ _ _ _ g2 hi
            have c10 : w6.cell? ⟨gv, j * 4, none⟩ = some (.int .i64 x.par) := c1 0 (by omega)
            have c11 : w6.cell? ⟨gv, j * 4 + 1, none⟩ = some (.int .i64 x.tick) := c1 1 (by omega)
            have c12 : w6.cell? ⟨gv, j * 4 + 2, none⟩ = some (.string x.note) := c1 2 (by omega)
            have c13 : w6.cell? ⟨gv, j * 4 + 3, none⟩ = some (.string x.state) := c1 3 (by omega)
            have c20 : w6.cell? ⟨gi, j * 4, none⟩ = some (.int .i64 x.par) := c2 0 (by omega)
            have c21 : w6.cell? ⟨gi, j * 4 + 1, none⟩ = some (.int .i64 x.tick) := c2 1 (by omega)
            have c22 : w6.cell? ⟨gi, j * 4 + 2, none⟩ = some (.string x.note) := c2 2 (by omega)
            have c23 : w6.cell? ⟨gi, j * 4 + 3, none⟩ = some (.string x.state) := c2 3 (by omega)
            have b4 : (0 : Int) ≤ (j : Int) := by omega
            have b5 : (j : Int) < (n1 : Int) := by omega
            have b6 : (j : Int) < (n2 : Int) := by omega
            clear c1 c2 g1 g2 hx
            go_wp2_with (fail)
            go_quiet (fail)
            go_wp2_with (fail)
            go_roundw
            case rel => exact ⟨j + 1, d + nq, by omega, by go_num, rfl⟩
            case measure => simp [intOf]; omega
          · have b5 : ¬ ((j : Int) < (n1 : Int)) := by omega
            go_wp2_with (fail)
            go_ret
            exact ⟨rfl, below_drewN (HB1.out.trans (HO.out.b.mono HB1.out.size)) _⟩
      · have d1 : decide (k < n) = false := decide_eq_false h1
        clear h1
        obtain ⟨n2, hn2⟩ : ∃ n2, n2 = (ents s'.1).length := ⟨_, rfl⟩
        have hs := save_any HW.out.h
        have hp2 := ents_pos HW.out.h.1
        have h12 : n1 ≤ n2 := by have := HE.out.len; rw [HN1.out, hn2, ents_length, ents_length]; exact this
        have hl2 : s'.1.length = n2 := by rw [hn2, ents_length]
        unfold RetV at hs
        rw [← hn2] at hs hp2
        have HS := Lib.hid hs
        have HN2 := Lib.hid hn2
        have HL2 := Lib.hid hl2
        have b3 : decide (n2 < n1) = false := decide_eq_false (by omega)
        clear hs hn2 hl2
        go_wp2_with (first
          | (go_at_call 19; refine HS.out.mono ?_; rintro e w6 ⟨v6, rfl, hv6, hB6⟩; obtain ⟨gi, ci, rfl, _⟩ := hv6.form hp2)
          | (go_at_call 20; refine (len_lit n2 HL2.out (HW.out.stay hB6).h).mono ?_; rintro e w7 ⟨rfl, rfl⟩))
        have hOw := HW.out.stay hB6
        have hv7 := owns_mono hv6 (Nat.zero_le _)
        have HO := Lib.hid hOw
        have HV7 := Lib.hid hv7
        clear hOw hv7 hv6 hB6
        go_loopw [101] (fun i wx => ∃ j d : Nat, j ≤ n1 ∧ i = .int .i64 j ∧ wx = w6.drewN d) (fun i _ => n1 - (intOf i).toNat)
        case atStart => exact ⟨0, 0, by omega, rfl, rfl⟩
        case round =>
          obtain ⟨j, d, hj, rfl, rfl⟩ := hrel
          by_cases hjn : j < n1
          · have hjs : j < s.1.length := by rw [HN1.out, ents_length] at hjn; exact hjn
            obtain ⟨x, hx⟩ : ∃ x, x = entF s.1 j := ⟨_, rfl⟩
            have g1 := ents_get hjs
            have g2 := ents_get (nodes := s'.1) (x := j) (Nat.lt_of_lt_of_le hjs HE.out.len)
            rw [HE.out.ent hjs] at g2
            rw [← hx] at g1 g2
            have c1 : ∀ i, i < 4 → w6.cell? ⟨gv, j * 4 + i, none⟩ = (entCells x)[i]? := fun i hi => by
              have := HO.out.vn
              rw [← HN1.out] at this
              rw [this.cellAt (j * 4 + i) (by omega)]
              exact entsFlat_get _ _ _ _ g1 hi
            have c2 : ∀ i, i < 4 → w6.cell? ⟨gi, j * 4 + i, none⟩ = (entCells x)[i]? := fun i hi => by
              rw [HV7.out.cellAt (j * 4 + i) (by omega)]
              exact entsFlat_get _ _ _ _ g2 hi
            have c10 : w6.cell? ⟨gv, j * 4, none⟩ = some (.int .i64 x.par) := c1 0 (by omega)
            have c11 : w6.cell? ⟨gv, j * 4 + 1, none⟩ = some (.int .i64 x.tick) := c1 1 (by omega)
            have c12 : w6.cell? ⟨gv, j * 4 + 2, none⟩ = some (.string x.note) := c1 2 (by omega)
            have c13 : w6.cell? ⟨gv, j * 4 + 3, none⟩ = some (.string x.state) := c1 3 (by omega)
            have c20 : w6.cell? ⟨gi, j * 4, none⟩ = some (.int .i64 x.par) := c2 0 (by omega)
            have c21 : w6.cell? ⟨gi, j * 4 + 1, none⟩ = some (.int .i64 x.tick) := c2 1 (by omega)
            have c22 : w6.cell? ⟨gi, j * 4 + 2, none⟩ = some (.string x.note) := c2 2 (by omega)
            have c23 : w6.cell? ⟨gi, j * 4 + 3, none⟩ = some (.string x.state) := c2 3 (by omega)
            have b4 : (0 : Int) ≤ (j : Int) := by omega
            have b5 : (j : Int) < (n1 : Int) := by omega
            have b6 : (j : Int) < (n2 : Int) := by omega
            clear c1 c2 g1 g2 hx
            go_wp2_with (fail)
            go_quiet (fail)
            go_wp2_with (fail)
            go_roundw
            case rel => exact ⟨j + 1, d + nq, by omega, by go_num, rfl⟩
            case measure => simp [intOf]; omega
          · have b5 : ¬ ((j : Int) < (n1 : Int)) := by omega
            go_wp2_with (fail)
            go_ret
            exact ⟨rfl, below_drewN (HB1.out.trans (HO.out.b.mono HB1.out.size)) _⟩
end Go.Proofs.Ythneinepdbkgeaa
