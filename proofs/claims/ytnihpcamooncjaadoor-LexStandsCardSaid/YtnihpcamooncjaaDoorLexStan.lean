/- The walk of the law LexStands. -/
import Derived.Test.YtnihpcamooncjaaDoorLexY
import Derived.IntWalk
namespace Go.Proofs.YtnihpcamooncjaaDoor
open Go.RowKit
set_option linter.unusedVariables false
set_option linter.unusedSimpArgs false
set_option linter.unusedSectionVars false
theorem stand_last {s : List UInt8} {a : Nat} {t : Tok} (h : Stand s a [t]) : t.k = 5 ∧ t.t = mkS [] ∧ a ≤ t.p ∧ t.p = s.length ∧ ∀ j, a ≤ j → j < t.p → ∃ b, s[j]? = some b ∧ blL b = true := h
theorem stand_cons {s : List UInt8} {a : Nat} {t u : Tok} {ts : List Tok} (h : Stand s a (t :: u :: ts)) : t.k ≠ 5 ∧ 1 ≤ t.t.size ∧ a ≤ t.p ∧ t.p + t.t.size ≤ s.length ∧ (s.drop t.p).take t.t.size = bys t.t ∧ (∀ j, a ≤ j → j < t.p → ∃ b, s[j]? = some b ∧ blL b = true) ∧ Stand s (t.p + t.t.size) (u :: ts) := h
theorem blank_four {c : Nat} (h : blankB c = true) : c = 32 ∨ c = 9 ∨ c = 10 ∨ c = 13 := by
  simpa [blankB, or_assoc] using h
theorem extract_tok {s T : ByteArray} {p : Nat} (h : ((bys s).drop p).take T.size = bys T) : s.extract p (p + T.size) = T := by
  rw [← mk_bys (s.extract p (p + T.size)), bys_extract, show p + T.size - p = T.size by omega, h, mk_bys]
theorem toList_bys (T : ByteArray) : T.toList = bys T := ByteArray.toList_eq T
/-- Between two tokens. -/
def StandI (s : ByteArray) (ts : List Tok) (n k a : Nat) : Prop := (k < n → Stand (bys s) a (ts.drop k)) ∧ (k = n → a = s.size)
set_option maxRecDepth 100000 in
set_option maxHeartbeats 8000000 in
theorem stands_any (w : World) (s : ByteArray) (hs : s.size ≤ maxLen) (hG : Signs w) : Calls Tryd.prog 5 #[.string s] w (RetW1 w) := by
  have LA := Lib.hid (awake_any w hG)
  have hs' := hs
  unfold maxLen at hs'
  by_cases h3 : s.size ≤ 3000
  · have d3 : ¬ (3000 : Int) < (s.size : Int) := by omega
    obtain ⟨ts, p, e, hL⟩ := lex_total _ (bys s) (Nat.le_refl _) 0
    by_cases he : e = 0
    · obtain ⟨n, hn⟩ : ∃ n, ts.length = n := ⟨_, rfl⟩
      have hp := lex_places hL
      have hbs : (bys s).length = s.size := rfl
      have hn3 : n ≤ 3001 := by rw [← hn]; omega
      have hn1 : 0 < n := by
        obtain ⟨init, h1, _⟩ := lex_end hL he
        rw [← hn, h1]; simp
      have hst := stand_of hL he [] 0 rfl (Nat.le_refl _) (fun j _ hj => by omega)
      have L1 := Lib.hid (fun (w' : World) (h : Below w.heap.size w w') => lex_good w' s (by omega) (hG.below h) hL he hn)
      have HN := Lib.hid hn
      have HST : Hid (StandI s ts n 0 0) := Lib.hid ⟨fun _ => hst, fun h => by omega⟩
      clear hn hst hp hbs he hG hs hL
      go_enter Tryd.func5, Tryd.ntmps5
      go_wp2_with (first
        | (go_at_call 9; (with_reducible refine LA.out.mono ?_); rintro e w1 ⟨rfl, hb1⟩; have B1 := Lib.hid hb1; clear hb1)
        | (go_at_call 13; (with_reducible refine (L1.out _ B1.out).mono ?_); rintro e w2 ⟨g, c, rfl, hR, hc, hg, hb2⟩; have B2 := Lib.hid (below_of B1.out hb2); have HR := Lib.hid hR; clear hR hc hg hb2))
      go_loopw [6, 7] (fun a i wr => ∃ k j : Nat, k ≤ n ∧ i = .int .i64 k ∧ a = .int .i64 j ∧ StandI s ts n k j ∧ Below w2.heap.size w2 wr) (fun _ i _ => n - (intOf i).toNat)
      case atStart => exact ⟨0, 0, by omega, rfl, rfl, HST.out, Below.refl _ _⟩
      case round =>
        obtain ⟨k, a, hk, rfl, rfl, hI, hB⟩ := hrel
        have HI := Lib.hid hI
        have HB := Lib.hid hB
        clear hI hB
        by_cases hlt : k < n
        · obtain ⟨t, ht⟩ : ∃ t, ts[k]? = some t := ⟨_, List.getElem?_eq_getElem (by rw [HN.out]; exact hlt)⟩
          have hR := HR.out.below HB.out HR.out.lt
          have htk : (ts.map Tok.tk)[k]? = some t.tk := by rw [List.getElem?_map, ht]; rfl
          have c0 := hR.c0 k _ htk
          have c1 := hR.c1 k _ htk
          have c2 := hR.c2 k _ htk
          simp only [Nat.zero_add, Tok.tk] at c0 c1 c2
          have hst := HI.out.1 hlt
          have hdr : ts.drop k = t :: ts.drop (k + 1) := by
            obtain ⟨hl, h⟩ := List.getElem?_eq_some_iff.1 ht
            rw [List.drop_eq_getElem_cons hl, h]
          rw [hdr] at hst
          obtain ⟨K, T, P⟩ := t
          have hdl : (ts.drop (k + 1)).length = n - (k + 1) := by rw [List.length_drop, HN.out]
          have b1 : (k : Int) < (n : Int) := by omega
          have b0 : (0 : Int) ≤ (k : Int) := by omega
          have a0 : (0 : Int) ≤ (a : Int) := by omega
          dsimp only at c0 c1 c2
          cases hq : ts.drop (k + 1) with
          | nil =>
            rw [hq] at hst
            obtain ⟨q1, q2, q3, q4, q5⟩ := stand_last hst
            dsimp only at q1 q2 q3 q4 q5
            subst q1
            obtain rfl : T = ⟨#[]⟩ := q2
            have hkn : k + 1 = n := by rw [hq] at hdl; simp at hdl; omega
            have hPs : P = s.size := q4
            have HQ := Lib.hid q5
            have e1 : decide (P < a) = false := decide_eq_false (by omega)
            have e2 : decide (s.size < P) = false := decide_eq_false (by omega)
            have e3 : ((k : Int) + 1 == (n : Int)) = true := by simp; omega
            have e4 : s.extract P P = ⟨#[]⟩ := by rw [← mk_bys (s.extract P P), bys_extract]; simp [mkS]
            have s1 : IntKind.i64.wrap (P : Int) = (P : Int) := IntWalk.i64_in _ (by omega)
            have s2 : IntKind.i64.wrap ((k : Int) + 1) = (k : Int) + 1 := IntWalk.i64_in _ (by omega)
            have HP := Lib.hid hPs
            have HKN := Lib.hid hkn
            have p0 : (0 : Int) ≤ (P : Int) := by omega
            have p1 : (P : Int) ≤ (s.size : Int) := by omega
            clear hst hdr hdl ht htk hR q4 q5 hPs hkn hq
            go_wp2_with (fail)
            go_quiet (fail)
            go_wp2_with (fail)
            go_loop [6] (fun a2 => ∃ j : Nat, a ≤ j ∧ j ≤ P ∧ a2 = .int .i64 j) (fun a2 => P - (intOf a2).toNat)
            case atStart => exact ⟨a, Nat.le_refl _, q3, rfl⟩
            case round =>
              obtain ⟨j, hj1, hj2, rfl⟩ := hrel
              by_cases hjp : j < P
              · have hjs : j < s.size := by omega
                have hbv : (s[j]'hjs).toNat = 32 ∨ (s[j]'hjs).toNat = 9 ∨ (s[j]'hjs).toNat = 10 ∨ (s[j]'hjs).toNat = 13 := by
                  obtain ⟨b, hb1, hb2⟩ := HQ.out j hj1 hjp
                  have hb3 : (bys s)[j]? = some (s[j]'hjs) := List.getElem?_eq_getElem (show j < (bys s).length from hjs)
                  rw [hb1] at hb3
                  obtain rfl := Option.some.inj hb3
                  exact blank_four hb2
                have j0 : (0 : Int) ≤ (j : Int) := by omega
                have j1 : (j : Int) < (s.size : Int) := by omega
                have jp : decide (j < P) = true := decide_eq_true hjp
                rcases hbv with hb | hb | hb | hb
                all_goals
                  go_wp2_with (fail)
                  go_round
                  case rel => exact ⟨j + 1, by omega, by omega, by go_num⟩
                  case measure => simp [intOf]; omega
              · obtain rfl : j = P := by omega
                have jp : decide (j < j) = false := decide_eq_false (by omega)
                go_wp2_with (fail)
                go_roundw
                case rel => exact ⟨k + 1, j, by omega, by go_num, rfl, ⟨fun h => by have := HKN.out; omega, fun _ => HP.out⟩, below_drewN (HB.out.alloc HB.out.size _) _⟩
                case measure => simp [intOf]; omega
          | cons u rest =>
            rw [hq] at hst
            obtain ⟨q1, q2, q3, q4, q5, q6, q7⟩ := stand_cons hst
            dsimp only at q1 q2 q3 q4 q5 q6 q7
            have q4' : P + T.size ≤ s.size := q4
            have e5 := extract_tok q5
            have HQ := Lib.hid q6
            have hkn : k + 1 < n := by rw [hq] at hdl; simp at hdl; omega
            have H7 : Hid (StandI s ts n (k + 1) (P + T.size)) := Lib.hid ⟨fun _ => by rw [hq]; exact q7, fun h => by omega⟩
            have e1 : decide (P < a) = false := decide_eq_false (by omega)
            have e2 : decide ((s.size : Int) < (P : Int) + (T.size : Int)) = false := decide_eq_false (by omega)
            have e3 : ((k : Int) + 1 == (n : Int)) = false := by simp; omega
            have e6 : (K == 5) = false := by simpa using q1
            have e7 : T.toList.isEmpty = false := by
              cases h : T.toList.isEmpty with
              | false => rfl
              | true =>
                have h2 : (bys T).length = T.size := rfl
                rw [toList_bys, List.isEmpty_iff] at h
                rw [h] at h2; simp at h2; omega
            have s1 : IntKind.i64.wrap ((P : Int) + (T.size : Int)) = (P : Int) + (T.size : Int) := IntWalk.i64_in _ (by omega)
            have s2 : IntKind.i64.wrap ((k : Int) + 1) = (k : Int) + 1 := IntWalk.i64_in _ (by omega)
            have s3 : ((P : Int) + (T.size : Int)).toNat = P + T.size := by omega
            have p0 : (0 : Int) ≤ (P : Int) := by omega
            have p1 : (P : Int) ≤ (P : Int) + (T.size : Int) := by omega
            have p2 : (P : Int) + (T.size : Int) ≤ (s.size : Int) := by omega
            have p3 : (0 : Int) ≤ (P : Int) + (T.size : Int) := by omega
            clear hst hdr hdl ht htk hR q4 q5 q6 q7 q1 hkn hq
            go_wp2_with (fail)
            go_quiet (fail)
            go_wp2_with (fail)
            go_loop [6] (fun a2 => ∃ j : Nat, a ≤ j ∧ j ≤ P ∧ a2 = .int .i64 j) (fun a2 => P - (intOf a2).toNat)
            case atStart => exact ⟨a, Nat.le_refl _, q3, rfl⟩
            case round =>
              obtain ⟨j, hj1, hj2, rfl⟩ := hrel
              by_cases hjp : j < P
              · have hjs : j < s.size := by omega
                have hbv : (s[j]'hjs).toNat = 32 ∨ (s[j]'hjs).toNat = 9 ∨ (s[j]'hjs).toNat = 10 ∨ (s[j]'hjs).toNat = 13 := by
                  obtain ⟨b, hb1, hb2⟩ := HQ.out j hj1 hjp
                  have hb3 : (bys s)[j]? = some (s[j]'hjs) := List.getElem?_eq_getElem (show j < (bys s).length from hjs)
                  rw [hb1] at hb3
                  obtain rfl := Option.some.inj hb3
                  exact blank_four hb2
                have j0 : (0 : Int) ≤ (j : Int) := by omega
                have j1 : (j : Int) < (s.size : Int) := by omega
                have jp : decide (j < P) = true := decide_eq_true hjp
                rcases hbv with hb | hb | hb | hb
                all_goals
                  go_wp2_with (fail)
                  go_round
                  case rel => exact ⟨j + 1, by omega, by omega, by go_num⟩
                  case measure => simp [intOf]; omega
              · obtain rfl : j = P := by omega
                have jp : decide (j < j) = false := decide_eq_false (by omega)
                go_wp2_with (fail)
                go_roundw
                case rel => exact ⟨k + 1, j + T.size, by omega, by go_num, by go_num, H7.out, below_drewN (HB.out.alloc HB.out.size _) _⟩
                case measure => simp [intOf]; omega
        · obtain rfl : k = n := by omega
          have hae := HI.out.2 rfl
          have ha : ((a : Int) == (s.size : Int)) = true := by simp; omega
          clear hae
          go_wp2_with (fail)
          go_ret
          exact ⟨rfl, below_of B2.out HB.out⟩
    · obtain ⟨h1, _⟩ | ⟨h41, _⟩ := lex_err hL
      · exact absurd h1 he
      have L1 := Lib.hid (fun (w' : World) (h : Below w.heap.size w w') => lex_bad w' s (by omega) (hG.below h) hL he)
      clear hL hs hG
      rcases h41 with rfl | rfl
      all_goals
        go_enter Tryd.func5, Tryd.ntmps5
        go_wp2_with (first
          | (go_at_call 9; (with_reducible refine LA.out.mono ?_); rintro e w1 ⟨rfl, hb1⟩; have B1 := Lib.hid hb1; clear hb1)
          | (go_at_call 13; (with_reducible refine (L1.out _ B1.out).mono ?_); rintro e w2 ⟨rfl, hb2⟩))
        go_ret
        exact ⟨rfl, below_of B1.out hb2⟩
  · have d3 : (3000 : Int) < (s.size : Int) := by omega
    clear hs hG
    go_enter Tryd.func5, Tryd.ntmps5
    go_wp2_with (go_at_call 9; (with_reducible refine LA.out.mono ?_); rintro e w1 ⟨rfl, hb1⟩)
    go_ret
    exact ⟨rfl, hb1⟩
end Go.Proofs.YtnihpcamooncjaaDoor
