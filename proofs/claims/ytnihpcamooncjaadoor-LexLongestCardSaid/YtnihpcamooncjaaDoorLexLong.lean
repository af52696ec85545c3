/- The walk of the law LexLongest. -/
import Derived.Test.YtnihpcamooncjaaDoorLexY
import Derived.IntWalk
namespace Go.Proofs.YtnihpcamooncjaaDoor
open Go.RowKit
set_option linter.unusedVariables false
set_option linter.unusedSimpArgs false
set_option linter.unusedSectionVars false
/-- Two tokens in boxes of their own. -/
def LongB (W : World) (t u : Tok) (p q : Value) (wx : World) : Prop :=
  ∃ b1 b2, p = .pointer (some ⟨b1, 0, none⟩) ∧ q = .pointer (some ⟨b2, 0, none⟩) ∧ wx.heap[b1]? = some (.cells #[.int .u8 t.k, .string t.t, .int .i64 t.p] 26 (0, 0)) ∧ wx.heap[b2]? = some (.cells #[.int .u8 u.k, .string u.t, .int .i64 u.p] 26 (0, 0)) ∧ Below W.heap.size W wx
theorem longB_tu (wr : World) (t u : Tok) : LongB wr t u (.pointer (some ⟨wr.heap.size, 0, none⟩)) (.pointer (some ⟨wr.heap.size + 1, 0, none⟩)) ((wr.alloc (.cells #[.int .u8 t.k, .string t.t, .int .i64 t.p] 26)).alloc (.cells #[.int .u8 u.k, .string u.t, .int .i64 u.p] 26)).drew := by
  refine ⟨_, _, rfl, rfl, HK.blk_drew (HK.blk_alloc (HK.blk_new _ _) _), HK.blk_drew ?_, (((Below.refl _ wr).alloc (Nat.le_refl _) _).alloc (by simp) _).drew⟩
  have := HK.blk_new (wr.alloc (.cells #[.int .u8 t.k, .string t.t, .int .i64 t.p] 26)) (.cells #[.int .u8 u.k, .string u.t, .int .i64 u.p] 26)
  rwa [World.size_alloc] at this
theorem longB_ut (wr : World) (t u : Tok) : LongB wr t u (.pointer (some ⟨wr.heap.size + 1, 0, none⟩)) (.pointer (some ⟨wr.heap.size, 0, none⟩)) ((wr.alloc (.cells #[.int .u8 u.k, .string u.t, .int .i64 u.p] 26)).alloc (.cells #[.int .u8 t.k, .string t.t, .int .i64 t.p] 26)).drew := by
  refine ⟨_, _, rfl, rfl, HK.blk_drew ?_, HK.blk_drew (HK.blk_alloc (HK.blk_new _ _) _), (((Below.refl _ wr).alloc (Nat.le_refl _) _).alloc (by simp) _).drew⟩
  have := HK.blk_new (wr.alloc (.cells #[.int .u8 u.k, .string u.t, .int .i64 u.p] 26)) (.cells #[.int .u8 t.k, .string t.t, .int .i64 t.p] 26)
  rwa [World.size_alloc] at this
theorem bys_append (a b : ByteArray) : bys (a ++ b) = bys a ++ bys b := by simp [bys, ByteArray.data_append]
set_option maxRecDepth 100000 in
set_option maxHeartbeats 8000000 in
theorem longest_any (w : World) (s : ByteArray) (hs : s.size ≤ maxLen) (hG : Signs w) : Calls Tryd.prog 7 #[.string s] w (RetW1 w) := by
  have LA := Lib.hid (awake_any w hG)
  have hs' := hs
  unfold maxLen at hs'
  by_cases h3 : s.size ≤ 3000
  · have d3 : ¬ (3000 : Int) < (s.size : Int) := by omega
    obtain ⟨ts, p, e, hL⟩ := lex_total _ (bys s) (Nat.le_refl _) 0
    by_cases he : e = 0
    · obtain ⟨n, hn⟩ : ∃ n, ts.length = n := ⟨_, rfl⟩
      have hp := lex_places hL
      have hbs : (bys s).length = s.size := rfl
      have hn3 : n ≤ 3001 := by rw [← hn]; omega
      have hpair := lex_pair hL he
      have L1 := Lib.hid (fun (w' : World) (h : Below w.heap.size w w') => lex_good w' s (by omega) (hG.below h) hL he hn)
      have L2 := Lib.hid (fun (w' : World) (h : Below w.heap.size w w') (X : ByteArray) (us : List Tok) (hX : X.size ≤ 6000) (hU : LexL 0 (bys X) us 0 0) (h3 : us.length = 3) => lex_good w' X (by omega) (hG.below h) hU rfl h3)
      have HN := Lib.hid hn
      have HP := Lib.hid hp
      have HPAIR := Lib.hid hpair
      clear hn hp hpair hbs he hG hs hL
      go_enter Tryd.func7, Tryd.ntmps7
      go_wp2_with (first
        | (go_at_call 9; (with_reducible refine LA.out.mono ?_); rintro e w1 ⟨rfl, hb1⟩; have B1 := Lib.hid hb1; clear hb1)
        | (go_at_call 13; (with_reducible refine (L1.out _ B1.out).mono ?_); rintro e w2 ⟨g, c, rfl, hR, hc, hg, hb2⟩; have B2 := Lib.hid (below_of B1.out hb2); have HR := Lib.hid hR; clear hR hc hg hb2))
      go_loopw [6] (fun i wr => ∃ k : Nat, k ≤ n ∧ i = .int .i64 k ∧ Below w2.heap.size w2 wr) (fun i _ => n - (intOf i).toNat)
      case atStart => exact ⟨0, by omega, rfl, Below.refl _ _⟩
      case round =>
        obtain ⟨k, hk, rfl, hB⟩ := hrel
        have HB := Lib.hid hB
        clear hB
        by_cases hlt : k + 2 < n
        · have d4 : decide ((k : Int) + 2 < (n : Int)) = true := decide_eq_true (by omega)
          have bk : (k : Int) ≤ 3001 := by omega
          obtain ⟨t, ht⟩ : ∃ t, ts[k]? = some t := ⟨_, List.getElem?_eq_getElem (by rw [HN.out]; omega)⟩
          obtain ⟨u, hu⟩ : ∃ u, ts[k + 1]? = some u := ⟨_, List.getElem?_eq_getElem (by rw [HN.out]; omega)⟩
          obtain ⟨v, hv⟩ : ∃ v, ts[k + 2]? = some v := ⟨_, List.getElem?_eq_getElem (by rw [HN.out]; omega)⟩
          have hR := HR.out.below HB.out HR.out.lt
          have htk : (ts.map Tok.tk)[k]? = some t.tk := by rw [List.getElem?_map, ht]; rfl
          have huk : (ts.map Tok.tk)[k + 1]? = some u.tk := by rw [List.getElem?_map, hu]; rfl
          have c0 := hR.c0 k _ htk
          have c1 := hR.c1 k _ htk
          have c2 := hR.c2 k _ htk
          have u0 := hR.c0 (k + 1) _ huk
          have u1 := hR.c1 (k + 1) _ huk
          have u2 := hR.c2 (k + 1) _ huk
          simp only [Nat.zero_add, Tok.tk] at c0 c1 c2 u0 u1 u2
          have s2 : IntKind.i64.wrap ((k : Int) + 1) = (k : Int) + 1 := IntWalk.i64_in _ (by omega)
          have s3 : ((k : Int) + 1).toNat = k + 1 := by omega
          have b0 : (0 : Int) ≤ (k : Int) := by omega
          have b1 : (k : Int) < (n : Int) := by omega
          have b2 : (0 : Int) ≤ (k : Int) + 1 := by omega
          have b3 : (k : Int) + 1 < (n : Int) := by omega
          have HPR := Lib.hid (HPAIR.out k t u v ht hu hv)
          have HT := Lib.hid (HP.out.2 t (List.mem_of_getElem? ht))
          have HU := Lib.hid (HP.out.2 u (List.mem_of_getElem? hu))
          have hmix : Tryd.prog.follows .mixedOrders = true := by kernel_rfl
          have hgw := hR.lt
          clear ht hu hv htk huk hR
          go_wp2_with (fail)
          go_cut [7, 8] from 33 (fun p q wx => LongB wr t u p q wx)
          case first =>
            go_region_with (fail)
            all_goals (
              go_wp2_with (fail)
              go_meet
              case rel => first | exact longB_tu wr t u | exact longB_ut wr t u)
          case rest =>
            obtain ⟨p1, p2, rfl, rfl, h1, h2, hBx⟩ := hcut
            have k0 := HK.blk_cell h1 0
            have k1 := HK.blk_cell h1 1
            have k2 := HK.blk_cell h1 2
            have m0 := HK.blk_cell h2 0
            have m1 := HK.blk_cell h2 1
            have m2 := HK.blk_cell h2 2
            have H1 := Lib.hid h1
            have H2 := Lib.hid h2
            have HBX := Lib.hid hBx
            clear h1 h2 hBx c0 c1 c2 u0 u1 u2
            have n1 : t.p + t.t.size ≤ 3000 := by have := HT.out; have hbs : (bys s).length = s.size := rfl; omega
            have n2 : u.p + u.t.size ≤ 3000 := by have := HU.out; have hbs : (bys s).length = s.size := rfl; omega
            by_cases hadj : t.p + t.t.size = u.p
            · have e1 : ((t.p : Int) + (t.t.size : Int) != (u.p : Int)) = false := by simp; omega
              have HADJ := Lib.hid hadj
              clear hadj
              obtain ⟨hX, hkind⟩ := HPR.out HADJ.out
              have L3 := Lib.hid (L2.out wc (below_of (below_of B2.out HB.out) HBX.out) (t.t ++ u.t) _ (by rw [ByteArray.size_append]; omega) (by rw [bys_append]; exact hX) rfl)
              have HKK := Lib.hid hkind
              clear hX hkind
              go_wp2_with (go_at_call 13; (with_reducible refine L3.out.mono ?_); rintro e w3 ⟨g5, c5, rfl, hR, hc, hg, hb3⟩; have x1 := hR.c1 0 _ rfl; have x2 := hR.c1 1 _ rfl; simp only [Nat.zero_add, Nat.zero_mul, Nat.one_mul, Nat.reduceAdd, Tok.tk] at x1 x2; have h1' := (hb3.block _ (HK.blk_lt H1.out)).trans H1.out; have h2' := (hb3.block _ (HK.blk_lt H2.out)).trans H2.out; have k0 := HK.blk_cell h1' 0; have k1 := HK.blk_cell h1' 1; have m0 := HK.blk_cell h2' 0; have m1 := HK.blk_cell h2' 1; clear h1' h2'; have HB3 := Lib.hid hb3; clear hb3 hR hc hg)
              go_quiet (fail)
              have hkk := HKK.out
              by_cases a1 : t.k = 4
              · have f1 : (t.k != 4) = false := by simpa using a1
                clear a1 hkk
                go_wp2_with (fail)
                go_roundw
                case rel => exact ⟨k + 1, by omega, by go_num, below_drewN (HB.out.trans ((HBX.out.trans (HB3.out.mono HBX.out.size)).mono HB.out.size)) _⟩
                case measure => simp [intOf]; omega
              · by_cases a2 : u.k = 4
                · have f1 : (t.k != 4) = true := by simpa using a1
                  have f2 : (u.k != 4) = false := by simpa using a2
                  clear a1 a2 hkk
                  go_wp2_with (fail)
                  go_roundw
                  case rel => exact ⟨k + 1, by omega, by go_num, below_drewN (HB.out.trans ((HBX.out.trans (HB3.out.mono HBX.out.size)).mono HB.out.size)) _⟩
                  case measure => simp [intOf]; omega
                · have a3 : u.k = 2 := by rcases hkk with h | h | h <;> first | exact absurd h a1 | exact absurd h a2 | exact h
                  have f1 : (t.k != 4) = true := by simpa using a1
                  have f2 : (u.k != 4) = true := by simpa using a2
                  have f3 : (u.k != 2) = false := by simpa using a3
                  clear a1 a2 a3 hkk
                  go_wp2_with (fail)
                  go_roundw
                  case rel => exact ⟨k + 1, by omega, by go_num, below_drewN (HB.out.trans ((HBX.out.trans (HB3.out.mono HBX.out.size)).mono HB.out.size)) _⟩
                  case measure => simp [intOf]; omega
            · have e1 : ((t.p : Int) + (t.t.size : Int) != (u.p : Int)) = true := by simp; omega
              clear hadj
              go_wp2_with (fail)
              go_roundw
              case rel => exact ⟨k + 1, by omega, by go_num, HB.out.trans (HBX.out.mono HB.out.size)⟩
              case measure => simp [intOf]; omega
        · have d4 : decide ((k : Int) + 2 < (n : Int)) = false := decide_eq_false (by omega)
          have bk : (k : Int) ≤ 3001 := by omega
          go_wp2_with (fail)
          go_ret
          exact ⟨rfl, below_of B2.out HB.out⟩
    · obtain ⟨h1, _⟩ | ⟨h41, _⟩ := lex_err hL
      · exact absurd h1 he
      have L1 := Lib.hid (fun (w' : World) (h : Below w.heap.size w w') => lex_bad w' s (by omega) (hG.below h) hL he)
      clear hL hs hG
      rcases h41 with rfl | rfl
      all_goals
        go_enter Tryd.func7, Tryd.ntmps7
        go_wp2_with (first
          | (go_at_call 9; (with_reducible refine LA.out.mono ?_); rintro e w1 ⟨rfl, hb1⟩; have B1 := Lib.hid hb1; clear hb1)
          | (go_at_call 13; (with_reducible refine (L1.out _ B1.out).mono ?_); rintro e w2 ⟨rfl, hb2⟩))
        go_ret
        exact ⟨rfl, below_of B1.out hb2⟩
  · have d3 : (3000 : Int) < (s.size : Int) := by omega
    clear hs hG
    go_enter Tryd.func7, Tryd.ntmps7
    go_wp2_with (go_at_call 9; (with_reducible refine LA.out.mono ?_); rintro e w1 ⟨rfl, hb1⟩)
    go_ret
    exact ⟨rfl, hb1⟩
end Go.Proofs.YtnihpcamooncjaaDoor
