/- The walk of the law LexJoined. -/
import Derived.Test.YtnihpcamooncjaaDoorLexX
namespace Go.Proofs.YtnihpcamooncjaaDoor
open Go.RowKit
set_option linter.unusedVariables false
set_option linter.unusedSimpArgs false
set_option linter.unusedSectionVars false
theorem joinT_tk (ts : List Tok) : joinT (ts.map Tok.tk) = joinL ts := by
  unfold joinT joinL textsT textsL
  congr 1
  induction ts with
  | nil => rfl
  | cons t ts ih =>
    simp only [List.map_cons, List.filter_cons]
    by_cases h : t.k = 5
    · have h1 : ((Tok.tk t).k != 5) = false := by simp [Tok.tk, h]
      simp only [h1, Bool.false_eq_true, if_false, h, ne_eq, not_true_eq_false, decide_false]
      exact ih
    · have h1 : ((Tok.tk t).k != 5) = true := by simp [Tok.tk, h]
      simp only [h1, if_true, h, ne_eq, not_false_eq_true, decide_true, List.map_cons]
      rw [ih]
      rfl
theorem alike_get {ts us : List Tok} (h : alike ts us) : ts.length = us.length ∧ ∀ (i : Nat) x y, (ts.map Tok.tk)[i]? = some x → (us.map Tok.tk)[i]? = some y → x.k = y.k ∧ x.t = y.t := by
  refine ⟨by simpa [alike] using congrArg List.length h, fun i x y hx hy => ?_⟩
  have := congrArg (fun l => l[i]?) h
  simp only [List.getElem?_map] at this hx hy
  rw [Option.map_eq_some_iff] at hx hy
  obtain ⟨t, h1, rfl⟩ := hx
  obtain ⟨u, h2, rfl⟩ := hy
  rw [h1, h2] at this
  simp only [Option.map_some, Option.some.injEq, Prod.mk.injEq] at this
  exact this
theorem mkS_len (l : List UInt8) : (mkS l).size = l.length := mk_size l
theorem sl_of {w : World} {g c n : Nat} {ts : List Tok} (h : RowT w g 0 (ts.map Tok.tk)) (hn : ts.length = n) : SlT w (.slice (some ⟨g, 0, none⟩) n c) (ts.map Tok.tk) :=
  .inl ⟨g, 0, c, by rw [List.length_map, hn], h⟩
theorem below_of {w a b : World} (h : Below w.heap.size w a) (k : Below a.heap.size a b) : Below w.heap.size w b := h.trans (k.mono h.size)
set_option maxRecDepth 100000 in
set_option maxHeartbeats 4000000 in
theorem joined_any (w : World) (s : ByteArray) (hs : s.size ≤ maxLen) (hG : Signs w) : Calls Tryd.prog 4 #[.string s] w (RetW1 w) := by
  have LA := Lib.hid (awake_any w hG)
  have hs' := hs
  unfold maxLen at hs'
  by_cases h3 : s.size ≤ 3000
  · have d3 : ¬ (3000 : Int) < (s.size : Int) := by omega
    obtain ⟨ts, p, e, hL⟩ := lex_total _ (bys s) (Nat.le_refl _) 0
    by_cases he : e = 0
    · obtain ⟨n, hn⟩ : ∃ n, ts.length = n := ⟨_, rfl⟩
      have hp := lex_places hL
      have hbs : (bys s).length = s.size := rfl
      have hn3 : n ≤ 3001 := by rw [← hn]; omega
      obtain ⟨us, hU, hal⟩ := lex_join hL he 0
      obtain ⟨hll, hget⟩ := alike_get hal
      have hjl := (join_len hL).1
      obtain ⟨X, hX⟩ : ∃ X, mkS (joinL ts) = X := ⟨_, rfl⟩
      have hXs : X.size ≤ 6000 := by rw [← hX, mkS_len]; omega
      have hU' : LexL 0 (bys X) us 0 0 := by rw [← hX, bys_mk]; exact hU
      have L1 := Lib.hid (fun (w' : World) (h : Below w.heap.size w w') => lex_good w' s (by omega) (hG.below h) hL he hn)
      have L2 := Lib.hid (fun (w' : World) (h : Below w.heap.size w w') => lex_good w' X (by omega) (hG.below h) hU' rfl (hll.symm.trans hn))
      have LJ : ∀ (w' : World) (v : Value), SlT w' v (ts.map Tok.tk) → Calls Tryd.prog 10 #[v] w' (fun e w2 => e = .returned (.string X) ∧ Below w'.heap.size w' w2) := fun w' v h =>
        (join_sl w' v _ h (by rw [List.length_map]; omega) (by rw [joinT_tk]; omega)).mono fun e w2 h => ⟨by rw [h.1, joinT_tk, hX], h.2⟩
      have LK : ∀ (w' : World) (v : Value), SlT w' v (us.map Tok.tk) → Calls Tryd.prog 10 #[v] w' (fun e w2 => e = .returned (.string X) ∧ Below w'.heap.size w' w2) := fun w' v h => by
        have hj : joinT (us.map Tok.tk) = joinL ts := by rw [joinT_tk, joinL, joinL, texts_alike hal]
        exact (join_sl w' v _ h (by rw [List.length_map]; omega) (by rw [hj]; omega)).mono fun e w2 h => ⟨by rw [h.1, hj, hX], h.2⟩
      have LL : ∀ (w' : World) (v v2 : Value), SlT w' v (ts.map Tok.tk) → SlT w' v2 (us.map Tok.tk) → Calls Tryd.prog 14 #[v, v2] w' (RetD w' true) := fun w' v v2 h h2 =>
        alike_yes w' v v2 _ _ h h2 (by simp [hll]) (by rw [List.length_map]; omega) hget
      have HLJ := Lib.hid LJ
      have HLK := Lib.hid LK
      have HLL := Lib.hid LL
      have HN := Lib.hid hn
      have HN2 := Lib.hid (hll.symm.trans hn)
      clear LJ LK LL hn hll hget hal hU hU' hL hjl hX hp hbs he hG hs
      go_enter Tryd.func4, Tryd.ntmps4
      go_wp2_with (first
        | (go_at_call 9; (with_reducible refine LA.out.mono ?_); rintro e w1 ⟨rfl, hb1⟩; have B1 := Lib.hid hb1; clear hb1)
        | (go_at_call 13; (with_reducible refine (L1.out _ B1.out).mono ?_); rintro e w2 ⟨g, c, rfl, hR, hc, hg, hb2⟩; have B2 := Lib.hid (below_of B1.out hb2); have S2 := Lib.hid (sl_of (c := c) hR HN.out); clear hR hc hg hb2)
        | (go_at_call 10; (with_reducible refine (HLJ.out _ _ S2.out).mono ?_); rintro e w3 ⟨rfl, hb3⟩; have B3 := Lib.hid (below_of B2.out hb3); have S3 := Lib.hid (S2.out.below hb3); clear hb3)
        | (go_at_call 13; (with_reducible refine (L2.out _ B3.out).mono ?_); rintro e w4 ⟨g4, c4, rfl, hR, hc, hg, hb4⟩; have B4 := Lib.hid (below_of B3.out hb4); have S4 := Lib.hid (sl_of (c := c4) hR HN2.out); have T4 := Lib.hid (S3.out.below hb4); clear hR hc hg hb4)
        | (go_at_call 14; (with_reducible refine (HLL.out _ _ _ T4.out S4.out).mono ?_); rintro e w5 ⟨rfl, d, rfl⟩)
        | (go_at_call 10; (with_reducible refine (HLK.out _ _ (S4.out.below (below_drewN (Below.refl _ _) d))).mono ?_); rintro e w6 ⟨rfl, hb6⟩))
      go_ret
      exact ⟨rfl, below_of (below_drewN B4.out d) hb6⟩
    · obtain ⟨h1, _⟩ | ⟨h41, _⟩ := lex_err hL
      · exact absurd h1 he
      have L1 := Lib.hid (fun (w' : World) (h : Below w.heap.size w w') => lex_bad w' s (by omega) (hG.below h) hL he)
      clear hL hs hG
      rcases h41 with rfl | rfl
      all_goals
        go_enter Tryd.func4, Tryd.ntmps4
        go_wp2_with (first
          | (go_at_call 9; (with_reducible refine LA.out.mono ?_); rintro e w1 ⟨rfl, hb1⟩; have B1 := Lib.hid hb1; clear hb1)
          | (go_at_call 13; (with_reducible refine (L1.out _ B1.out).mono ?_); rintro e w2 ⟨rfl, hb2⟩))
        go_ret
        exact ⟨rfl, below_of B1.out hb2⟩
  · have d3 : (3000 : Int) < (s.size : Int) := by omega
    clear hs hG
    go_enter Tryd.func4, Tryd.ntmps4
    go_wp2_with (go_at_call 9; (with_reducible refine LA.out.mono ?_); rintro e w1 ⟨rfl, hb1⟩)
    go_ret
    exact ⟨rfl, hb1⟩
end Go.Proofs.YtnihpcamooncjaaDoor
