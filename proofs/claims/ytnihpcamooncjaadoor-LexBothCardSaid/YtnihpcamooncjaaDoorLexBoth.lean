/- The walk of the law LexBoth. -/
import Derived.Test.YtnihpcamooncjaaDoorLexWron
namespace Go.Proofs.YtnihpcamooncjaaDoor
open Go.RowKit
set_option linter.unusedVariables false
set_option linter.unusedSimpArgs false
set_option linter.unusedSectionVars false
theorem RowT.pre {w : World} {g o : Nat} {xs ys : List Tk} (h : RowT w g o (xs ++ ys)) : RowT w g o xs where
  c0 := fun i x hx => h.c0 i x (by rw [List.getElem?_append_left (List.getElem?_eq_some_iff.1 hx).1]; exact hx)
  c1 := fun i x hx => h.c1 i x (by rw [List.getElem?_append_left (List.getElem?_eq_some_iff.1 hx).1]; exact hx)
  c2 := fun i x hx => h.c2 i x (by rw [List.getElem?_append_left (List.getElem?_eq_some_iff.1 hx).1]; exact hx)
  lt := h.lt
theorem blank_of {q : Nat} (h : q ≤ 3) : ∃ b : UInt8, (ByteArray.mk #[32, 9, 10, 13]).extract q (q + 1) = ⟨#[b]⟩ ∧ blL b = true := by
  have : q = 0 ∨ q = 1 ∨ q = 2 ∨ q = 3 := by omega
  rcases this with rfl | rfl | rfl | rfl
  · exact ⟨32, rfl, rfl⟩
  · exact ⟨9, rfl, rfl⟩
  · exact ⟨10, rfl, rfl⟩
  · exact ⟨13, rfl, rfl⟩
theorem size_three {s t : ByteArray} {b : UInt8} (hs : s.size ≤ 1500) (ht : t.size ≤ 1500) : (s ++ ⟨#[b]⟩ ++ t).size ≤ 16384 := by
  have h1 : (ByteArray.mk #[b]).size = 1 := rfl
  rw [ByteArray.size_append, ByteArray.size_append]; omega
theorem bys_three (s t : ByteArray) (b : UInt8) : bys (s ++ ⟨#[b]⟩ ++ t) = bys s ++ b :: bys t := by
  rw [bysApp, bysApp, show bys ⟨#[b]⟩ = [b] from rfl, List.append_assoc]; rfl
set_option maxRecDepth 100000 in
set_option maxHeartbeats 8000000 in
theorem both_any (w : World) (s t : ByteArray) (n : Nat) (hs : s.size ≤ maxLen) (ht : t.size ≤ maxLen) (hn : n ≤ 255) (hG : Signs w) : Calls Tryd.prog 6 #[.string s, .string t, .int .u8 n] w (RetW1 w) := by
  have LA := Lib.hid (awake_any w hG)
  have hs' := hs
  have ht' := ht
  unfold maxLen at hs' ht'
  by_cases h3 : s.size ≤ 1500
  · have d3 : decide ((1500 : Int) < (s.size : Int)) = false := decide_eq_false (by omega)
    by_cases h4 : t.size ≤ 1500
    · have d4 : decide ((1500 : Int) < (t.size : Int)) = false := decide_eq_false (by omega)
      obtain ⟨q, hq, hq3⟩ : ∃ q : Nat, (n : Int) % 4 = (q : Int) ∧ q ≤ 3 := ⟨n % 4, by omega, by omega⟩
      obtain ⟨b, hx, hbl⟩ := blank_of hq3
      have q0 : (0 : Int) ≤ (q : Int) := by omega
      have q1 : (q : Int) ≤ 3 := by omega
      obtain ⟨ts, p, e, hL⟩ := lex_total _ (bys s) (Nat.le_refl _) 0
      obtain ⟨us, p2, f, hM⟩ := lex_total _ (bys t) (Nat.le_refl _) 0
      have hsz := size_three (b := b) h3 h4
      have hby := bys_three s t b
      have hbs : (bys s).length = s.size := rfl
      have hbt : (bys t).length = t.size := rfl
      obtain ⟨m, hm⟩ : ∃ m, us.length = m := ⟨_, rfl⟩
      have hpt := (lex_places hM).1
      have hps := (lex_places hL).1
      by_cases he : e = 0
      · by_cases hf : f = 0
        · have hsh := lex_shift hM (s.size + 1)
          rw [if_pos hf] at hsh
          have hz := lex_both hL hbl (bys t) he (us := us.map (Tok.move (s.size + 1))) (q := p2) (f := f) (by rw [hbs, show 0 + s.size + 1 = 0 + (s.size + 1) by omega]; exact hsh)
          rw [← hby] at hz
          obtain ⟨ini, hini, _⟩ := lex_end hL he
          obtain ⟨a1, ha1⟩ : ∃ a1, ini.length = a1 := ⟨_, rfl⟩
          have hdl : ts.dropLast = ini := by rw [hini, List.dropLast_concat]
          rw [hdl] at hz
          have hta : ts.length = a1 + 1 := by rw [hini, List.length_append, ha1]; rfl
          have hall : (ini ++ us.map (Tok.move (s.size + 1))).length = a1 + m := by rw [List.length_append, List.length_map, ha1, hm]
          have L1 := Lib.hid (fun (w' : World) (h : Below w.heap.size w w') => lex_good w' s (by omega) (hG.below h) hL he hta)
          have L2 := Lib.hid (fun (w' : World) (h : Below w.heap.size w w') => lex_good w' t (by omega) (hG.below h) hM hf hm)
          have L3 := Lib.hid (fun (w' : World) (h : Below w.heap.size w w') => lex_good w' (s ++ ⟨#[b]⟩ ++ t) hsz (hG.below h) hz hf hall)
          have ba : a1 ≤ 1501 := by omega
          have bm : m ≤ 1501 := by omega
          have HA1 := Lib.hid ha1
          have HM := Lib.hid hm
          have HINI := Lib.hid hini
          have HPL := Lib.hid (lex_places hM).2
          have HBT := Lib.hid hbt
          have i1 : (((a1 + m : Nat) : Int) != ((a1 + 1 : Nat) : Int) + (m : Int) - 1) = false := by simp; omega
          have i2 : IntKind.i64.wrap (((a1 + 1 : Nat) : Int) - 1) = (a1 : Int) := by rw [IntWalk.i64_in _ (by omega)]; omega
          clear hL hM hz hsh hsz hby hbs hbt he hf hs ht hG hm ha1 hpt hps hq3 hall hta hdl hini
          go_enter Tryd.func6, Tryd.ntmps6
          go_wp2_with (first
            | (go_at_call 9; (with_reducible refine LA.out.mono ?_); rintro e w1 ⟨rfl, hb1⟩; have B1 := Lib.hid hb1; clear hb1)
            | (go_at_call 13; (with_reducible refine (L1.out _ B1.out).mono ?_); rintro e w2 ⟨g, c, rfl, hR, hc, hg, hb2⟩; have B2 := Lib.hid (below_of B1.out hb2); have R2 := Lib.hid hR; have C2 := Lib.hid hc; clear hR hc hg hb2)
            | (go_at_call 13; (with_reducible refine (L2.out _ B2.out).mono ?_); rintro e w3 ⟨g3, c3, rfl, hR, hc, hg, hb3⟩; have B3 := Lib.hid (below_of B2.out hb3); have R3 := Lib.hid hR; have R23 := Lib.hid (R2.out.below hb3 R2.out.lt); clear hR hc hg hb3)
            | (go_at_call 13; (with_reducible refine (L3.out _ B3.out).mono ?_); rintro e w4 ⟨g4, c4, rfl, hR, hc, hg, hb4⟩; have B4 := Lib.hid (below_of B3.out hb4); have R4 := Lib.hid hR; have R24 := Lib.hid (R23.out.below hb4 R23.out.lt); have R34 := Lib.hid (R3.out.below hb4 R3.out.lt); have C4 := Lib.hid hc; clear hR hc hg hb4))
          have j1 : (a1 : Int) + 1 - 1 = (a1 : Int) := by omega
          go_loopw [16] (fun i wr => ∃ k : Nat, k ≤ m ∧ i = .int .i64 k ∧ Below w4.heap.size w4 wr) (fun i _ => m - (intOf i).toNat)
          case atStart => exact ⟨0, by omega, rfl, Below.refl _ _⟩
          case round =>
            obtain ⟨k, hk, rfl, hB⟩ := hrel
            have HB := Lib.hid hB
            clear hB
            by_cases hlt : k < m
            · obtain ⟨u, hu⟩ : ∃ u, us[k]? = some u := ⟨_, List.getElem?_eq_getElem (by rw [HM.out]; exact hlt)⟩
              have hR4 := R4.out.below HB.out R4.out.lt
              have hR3 := R34.out.below HB.out R34.out.lt
              have hu3 : (us.map Tok.tk)[k]? = some u.tk := by rw [List.getElem?_map, hu]; rfl
              have hu4 : ((ini ++ us.map (Tok.move (s.size + 1))).map Tok.tk)[a1 + k]? = some (u.move (s.size + 1)).tk := by
                rw [List.getElem?_map, List.getElem?_append_right (by rw [HA1.out]; omega), HA1.out, show a1 + k - a1 = k by omega, List.getElem?_map, hu]; rfl
              have c0 := hR4.c0 _ _ hu4
              have c1 := hR4.c1 _ _ hu4
              have c2 := hR4.c2 _ _ hu4
              have u0 := hR3.c0 _ _ hu3
              have u1 := hR3.c1 _ _ hu3
              have u2 := hR3.c2 _ _ hu3
              simp only [Nat.zero_add, Tok.tk, Tok.move] at c0 c1 c2 u0 u1 u2
              rw [show ((u.p + (s.size + 1) : Nat) : Int) = (u.p : Int) + (s.size : Int) + 1 by omega] at c2
              have hup : u.p ≤ 1500 := by have := HPL.out u (List.mem_of_getElem? hu); have := HBT.out; omega
              have s1 : IntKind.i64.wrap ((u.p : Int) + (s.size : Int)) = (u.p : Int) + (s.size : Int) := IntWalk.i64_in _ (by omega)
              have s2 : IntKind.i64.wrap ((u.p : Int) + (s.size : Int) + 1) = (u.p : Int) + (s.size : Int) + 1 := IntWalk.i64_in _ (by omega)
              have s3 : ((a1 : Int) + (k : Int)).toNat = a1 + k := by omega
              have b0 : (0 : Int) ≤ (k : Int) := by omega
              have b1 : (k : Int) < (m : Int) := by omega
              have b2 : (0 : Int) ≤ (a1 : Int) + (k : Int) := by omega
              have b3 : (a1 : Int) + (k : Int) < (a1 : Int) + (m : Int) := by omega
              have hg3 := hR3.lt
              clear hu hR4 hR3 hu3 hu4 hup
              go_wp2_with (fail)
              go_quiet (fail)
              go_wp2_with (fail)
              go_roundw
              case rel => exact ⟨k + 1, by omega, by go_num, below_drewN (HB.out.alloc HB.out.size _) _⟩
              case measure => simp [intOf]; omega
            · obtain rfl : k = m := by omega
              have LL : ∀ d, Calls Tryd.prog 14 #[.slice (some ⟨g4, 0, none⟩) a1 c4, .slice (some ⟨g, 0, none⟩) a1 c] (wr.drewN d) (RetD (wr.drewN d) true) := fun d => by
                have hA : RowT (wr.drewN d) g4 0 (ini.map Tok.tk) := by
                  have h := R4.out.below (below_drewN HB.out d) R4.out.lt
                  rw [List.map_append] at h
                  exact h.pre
                have hC : RowT (wr.drewN d) g 0 (ini.map Tok.tk) := by
                  have h := R24.out.below (below_drewN HB.out d) R24.out.lt
                  rw [HINI.out, List.map_append] at h
                  exact h.pre
                have := alike_row (wr.drewN d) g4 0 c4 g 0 c (ini.map Tok.tk) (ini.map Tok.tk) hA hC rfl (by rw [List.length_map, HA1.out]; omega) (fun i x y hx hy => by rw [hx] at hy; cases hy; exact ⟨rfl, rfl⟩)
                rw [List.length_map, HA1.out] at this
                exact this
              have HLL := Lib.hid LL
              have b0 : (0 : Int) ≤ (a1 : Int) := by omega
              have b1 : (a1 : Int) ≤ (c4 : Int) := by have := C4.out; omega
              have b2 : (a1 : Int) ≤ (c : Int) := by have := C2.out; omega
              have i3 : IntKind.i64.wrap ((a1 : Int) + 1 - 1) = (a1 : Int) := by rw [IntWalk.i64_in _ (by omega)]; omega
              clear LL
              go_wp2_with (fail)
              go_quiet ((go_at_call 14; exact Calls.quiet_of (HLL.out _)))
              go_wp2_with (fail)
              go_ret
              exact ⟨rfl, below_drewN (below_of B4.out HB.out) _⟩
        · have hsh := lex_shift hM (s.size + 1)
          rw [if_neg hf] at hsh
          have hz := lex_both hL hbl (bys t) he (us := us.map (Tok.move (s.size + 1))) (q := p2 + (s.size + 1)) (f := f) (by rw [hbs, show 0 + s.size + 1 = 0 + (s.size + 1) by omega]; exact hsh)
          rw [← hby] at hz
          obtain ⟨a1, ha1⟩ : ∃ a1, ts.length = a1 := ⟨_, rfl⟩
          have L1 := Lib.hid (fun (w' : World) (h : Below w.heap.size w w') => lex_good w' s (by omega) (hG.below h) hL he ha1)
          have L2 := Lib.hid (fun (w' : World) (h : Below w.heap.size w w') => lex_bad w' t (by omega) (hG.below h) hM hf)
          have L3 := Lib.hid (fun (w' : World) (h : Below w.heap.size w w') => lex_bad w' (s ++ ⟨#[b]⟩ ++ t) hsz (hG.below h) hz hf)
          have n1 : (f != 0) = true := by simpa using hf
          have k1 : IntKind.i64.wrap ((p2 : Int) + (s.size : Int)) = (p2 : Int) + (s.size : Int) := IntWalk.i64_in _ (by have := lex_err hM; omega)
          have k2 : IntKind.i64.wrap ((p2 : Int) + (s.size : Int) + 1) = (p2 : Int) + (s.size : Int) + 1 := IntWalk.i64_in _ (by have := lex_err hM; omega)
          have k3 : (((p2 + (s.size + 1) : Nat) : Int) == (p2 : Int) + (s.size : Int) + 1) = true := by simp; omega
          have p0 : (p2 : Int) ≤ 1500 := by have := lex_err hM; omega
          clear hL hM hz hsh hsz hby hbs hbt he hf hs ht hG hm ha1 hpt hps hq3
          go_enter Tryd.func6, Tryd.ntmps6
          go_wp2_with (first
            | (go_at_call 9; (with_reducible refine LA.out.mono ?_); rintro e w1 ⟨rfl, hb1⟩; have B1 := Lib.hid hb1; clear hb1)
            | (go_at_call 13; (with_reducible refine (L1.out _ B1.out).mono ?_); rintro e w2 ⟨g, c, rfl, hR, hc, hg, hb2⟩; have B2 := Lib.hid (below_of B1.out hb2); clear hR hc hg hb2)
            | (go_at_call 13; (with_reducible refine (L2.out _ B2.out).mono ?_); rintro e w3 ⟨rfl, hb3⟩; have B3 := Lib.hid (below_of B2.out hb3); clear hb3)
            | (go_at_call 13; (with_reducible refine (L3.out _ B3.out).mono ?_); rintro e w4 ⟨rfl, hb4⟩))
          go_ret
          exact ⟨rfl, below_of B3.out hb4⟩
      · have hz := lex_both_err hL hbl (bys t) he
        rw [← hby] at hz
        have L1 := Lib.hid (fun (w' : World) (h : Below w.heap.size w w') => lex_bad w' s (by omega) (hG.below h) hL he)
        have L3 := Lib.hid (fun (w' : World) (h : Below w.heap.size w w') => lex_bad w' (s ++ ⟨#[b]⟩ ++ t) hsz (hG.below h) hz he)
        have n1 : (e != 0) = true := by simpa using he
        by_cases hf : f = 0
        · have L2 := Lib.hid (fun (w' : World) (h : Below w.heap.size w w') => lex_good w' t (by omega) (hG.below h) hM hf hm)
          clear hL hM hz hsz hby hbs hbt he hf hs ht hG hm hpt hps hq3
          go_enter Tryd.func6, Tryd.ntmps6
          go_wp2_with (first
            | (go_at_call 9; (with_reducible refine LA.out.mono ?_); rintro e w1 ⟨rfl, hb1⟩; have B1 := Lib.hid hb1; clear hb1)
            | (go_at_call 13; (with_reducible refine (L1.out _ B1.out).mono ?_); rintro e w2 ⟨rfl, hb2⟩; have B2 := Lib.hid (below_of B1.out hb2); clear hb2)
            | (go_at_call 13; (with_reducible refine (L2.out _ B2.out).mono ?_); rintro e w3 ⟨g, c, rfl, hR, hc, hg, hb3⟩; have B3 := Lib.hid (below_of B2.out hb3); clear hR hc hg hb3)
            | (go_at_call 13; (with_reducible refine (L3.out _ B3.out).mono ?_); rintro e w4 ⟨rfl, hb4⟩))
          go_ret
          exact ⟨rfl, below_of B3.out hb4⟩
        · have L2 := Lib.hid (fun (w' : World) (h : Below w.heap.size w w') => lex_bad w' t (by omega) (hG.below h) hM hf)
          clear hL hM hz hsz hby hbs hbt he hf hs ht hG hm hpt hps hq3
          go_enter Tryd.func6, Tryd.ntmps6
          go_wp2_with (first
            | (go_at_call 9; (with_reducible refine LA.out.mono ?_); rintro e w1 ⟨rfl, hb1⟩; have B1 := Lib.hid hb1; clear hb1)
            | (go_at_call 13; (with_reducible refine (L1.out _ B1.out).mono ?_); rintro e w2 ⟨rfl, hb2⟩; have B2 := Lib.hid (below_of B1.out hb2); clear hb2)
            | (go_at_call 13; (with_reducible refine (L2.out _ B2.out).mono ?_); rintro e w3 ⟨rfl, hb3⟩; have B3 := Lib.hid (below_of B2.out hb3); clear hb3)
            | (go_at_call 13; (with_reducible refine (L3.out _ B3.out).mono ?_); rintro e w4 ⟨rfl, hb4⟩))
          go_ret
          exact ⟨rfl, below_of B3.out hb4⟩
    · have d4 : decide ((1500 : Int) < (t.size : Int)) = true := decide_eq_true (by omega)
      clear hs hG ht
      go_enter Tryd.func6, Tryd.ntmps6
      go_wp2_with (go_at_call 9; (with_reducible refine LA.out.mono ?_); rintro e w1 ⟨rfl, hb1⟩)
      go_ret
      exact ⟨rfl, hb1⟩
  · have d3 : decide ((1500 : Int) < (s.size : Int)) = true := decide_eq_true (by omega)
    clear hs hG ht
    go_enter Tryd.func6, Tryd.ntmps6
    go_wp2_with (go_at_call 9; (with_reducible refine LA.out.mono ?_); rintro e w1 ⟨rfl, hb1⟩)
    go_ret
    exact ⟨rfl, hb1⟩
end Go.Proofs.YtnihpcamooncjaaDoor
