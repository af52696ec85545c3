/- The reference's Open (29). -/
import Derived.Test.YthneinepdbkgeaaRefl
import Derived.Test.YthneinepdbkgeaaRefj
import Derived.BigQuiet
import Derived.Test.YthneinepdbkgeaaRefc
namespace Go.Proofs.Ythneinepdbkgeaa
open Go.RowKit Go.HK
set_option linter.unusedVariables false
set_option linter.unusedSimpArgs false
set_option linter.unusedSectionVars false
abbrev zT : Value := .agg #[.slice none 0 0, .int .i64 0, .slice none 0 0]
abbrev zO : Obj := .cells #[.slice none 0 0, .int .i64 0, .slice none 0 0] 63 (0, 0)
def RetOpN (w : World) (k : Int) (e : Ending) (w' : World) : Prop := e = .returned (.tuple #[zT, .int .i64 k]) ∧ Below w.heap.size w w'
def RetOpY (w : World) (es : List Ent) (n now : Nat) (e : Ending) (w' : World) : Prop :=
  ∃ g c g2 c2 l, e = .returned (.tuple #[.agg #[.slice (some ⟨g, 0, none⟩) n c, .int .i64 (now : Int), .slice (some ⟨g2, 0, none⟩) (n + 1) c2], .int .i64 0]) ∧ EntsAt w' g es ∧ RowAt w' g2 (n + 1) (l ++ [now]) ∧ FavOk (openN es now) (l ++ [now]) ∧ w.heap.size ≤ g ∧ w.heap.size ≤ g2 ∧ Below w.heap.size w w'
/-- What Open answers. -/
def RetOp (w : World) (es : List Ent) (n : Nat) (now : Int) (e : Ending) (w' : World) : Prop :=
  (¬ Short es ∧ RetOpN w 3 e w') ∨ (Short es ∧ ¬ Right es now ∧ RetOpN w 2 e w') ∨ (Short es ∧ ∃ m : Nat, now = m ∧ Right es now ∧ RetOpY w es n m e w')
def ShTo (es : List Ent) (k : Nat) : Prop := ∀ (j : Nat) (x : Ent), j < k → es[j]? = some x → x.state.size ≤ 16384 ∧ x.note.size ≤ 100
theorem ShTo.more {es : List Ent} {k : Nat} {x : Ent} (h : ShTo es k) (hx : es[k]? = some x) (h1 : x.state.size ≤ 16384) (h2 : x.note.size ≤ 100) : ShTo es (k + 1) := fun j y hj hy => by
  by_cases e : j = k
  · subst e; rw [hx] at hy; cases hy; exact ⟨h1, h2⟩
  · exact h j y (by omega) hy
set_option maxRecDepth 100000 in
set_option maxHeartbeats 8000000 in
theorem ropen_any (w : World) (ge n ce : Nat) (es : List Ent) (now : Int) (hn : es.length = n) (hn0 : 0 < n) (hle : n ≤ 1000) (he : EntsAt w ge es) (hz : ∀ (j : Nat) (y : Ent), es[j]? = some y → y.state.size ≤ maxLen ∧ y.note.size ≤ maxLen) :
    Calls Try.prog 29 #[.slice (some ⟨ge, 0, none⟩) n ce, .int .i64 now] w (RetOp w es n now) := by
  unfold maxLen at hz
  obtain ⟨R, hR⟩ : ∃ R, R = w.heap.size := ⟨_, rfl⟩
  obtain ⟨w1, hw1⟩ : ∃ w1, w1 = w.alloc (.cells #[.slice none 0 0, .int .i64 0, .slice none 0 0] 63) := ⟨_, rfl⟩
  have hB1 : Below w.heap.size w w1 := by rw [hw1]; exact (Below.refl _ w).alloc (Nat.le_refl _) _
  have hR1 : w1.heap[R]? = some zO := by rw [hw1, hR]; exact HK.blk_new _ _
  have he1 := he.below hB1 (Nat.le_refl _)
  have hRl := HK.blk_lt hR1
  have HF3 : ∀ (k : Int) W, Below w1.heap.size w1 W → W.heap[R]? = some zO → ∀ v0 v1 v2, Below w.heap.size w (((W.setCell ⟨R, 0, none⟩ v0).setCell ⟨R, 1, none⟩ v1).setCell ⟨R, 2, none⟩ v2) := fun k W hB hW v0 v1 v2 =>
    (hB1.trans (hB.mono hB1.size)).trans ((set3_frm W R v0 v1 v2).below (B := w.heap.size) (hB1.trans (hB.mono hB1.size)).size (fun b e => by omega))
  have HF3 := Lib.hid HF3
  have HN := Lib.hid hn
  have HE1 := Lib.hid he1
  have HZ := Lib.hid hz
  have HW1 := Lib.hid hw1
  have HR := Lib.hid hR
  have HB1 := Lib.hid hB1
  have HR1 := Lib.hid hR1
  have HRL := Lib.hid hRl
  clear hn he hz hw1 hR hB1 hR1 he1 hRl
  have r0 := HK.blk_cell HR1.out 0
  have r1 := HK.blk_cell HR1.out 1
  have r2 := HK.blk_cell HR1.out 2
  have rf := fun i => HK.blk_frozen HR1.out i
  have g0 : ¬ (1000 : Int) < (n : Int) := by omega
  go_enter Try.func29, Try.ntmps29
  go_upto_region 1 with (fail)
  rw [← HW1.out, ← HR.out]
  go_wp2_with (fail)
  go_loopw [6] (fun i wr => ∃ k : Nat, k ≤ n ∧ i = .int .i64 k ∧ w1 = wr ∧ Hid (ShTo es k)) (fun i _ => n - (intOf i).toNat)
  case atStart => exact ⟨0, Nat.zero_le _, rfl, rfl, Lib.hid (fun j x hj => by omega)⟩
  case round =>
    obtain ⟨k, hk, rfl, rfl, HSH⟩ := hrel
    have b0 : (0 : Int) ≤ (k : Int) := by omega
    by_cases hkn : (k : Int) < (n : Int)
    · obtain ⟨xk, hx⟩ : ∃ x, es[k]? = some x := ⟨_, List.getElem?_eq_getElem (by rw [HN.out]; omega)⟩
      obtain ⟨_, _, c2, c3⟩ := HE1.out.c k xk hx
      obtain ⟨hz1, hz2⟩ := HZ.out k xk hx
      obtain ⟨st, hst⟩ : ∃ st, st = xk.state := ⟨_, rfl⟩
      obtain ⟨nt, hnt⟩ : ∃ nt, nt = xk.note := ⟨_, rfl⟩
      rw [← hst] at c3 hz1
      rw [← hnt] at c2 hz2
      have HX := Lib.hid hx
      have HST := Lib.hid hst
      have HNT := Lib.hid hnt
      clear hx hst hnt
      by_cases q1 : 16384 < st.size
      · have HQ : Hid (¬ Short es) := Lib.hid (fun h => by have := (h k xk HX.out).1; rw [← HST.out] at this; omega)
        go_wp2_with (fail)
        refine bodyPost_ret (results_cell2 (p := 4) (u := 5) (by kernel_rfl) _ _ R 63 _ (0, 0) _ (.int .i64 3) rfl rfl (set3 HR1.out _ _ _) Try.underlying63 rfl (by kernel_rfl)) rfl ?_
        exact .inl ⟨HQ.out, rfl, HF3.out 0 _ (Below.refl _ _) HR1.out _ _ _⟩
      · have q1' : st.size ≤ 16384 := by omega
        clear q1
        by_cases q2 : 100 < nt.size
        · have HQ : Hid (¬ Short es) := Lib.hid (fun h => by have := (h k xk HX.out).2; rw [← HNT.out] at this; omega)
          go_wp2_with (fail)
          refine bodyPost_ret (results_cell2 (p := 4) (u := 5) (by kernel_rfl) _ _ R 63 _ (0, 0) _ (.int .i64 3) rfl rfl (set3 HR1.out _ _ _) Try.underlying63 rfl (by kernel_rfl)) rfl ?_
          exact .inl ⟨HQ.out, rfl, HF3.out 0 _ (Below.refl _ _) HR1.out _ _ _⟩
        · have q2' : nt.size ≤ 100 := by omega
          clear q2
          go_wp2_with (fail)
          go_roundw
          case rel => exact ⟨k + 1, by omega, by go_num, trivial, Lib.hid (HSH.out.more HX.out (by rw [← HST.out]; exact q1') (by rw [← HNT.out]; exact q2'))⟩
          case measure => simp [intOf]; omega
    · obtain rfl : n = k := by omega
      have HS : Hid (Short es) := Lib.hid (fun j x hx => HSH.out j x (by have := (List.getElem?_eq_some_iff.1 hx).1; rw [HN.out] at this; exact this) hx)
      go_upto_region 9 with (
        at_builtin
        refine wpList_app_any rfl elem61 _ _ rfl (.slice (some ⟨w1.heap.size, 0, none⟩) 0 0) w1.heap.size 0 [] rfl (empty_row w1 98 4) ⟨ge, 0, none⟩ n ce (entsFlat es) rfl (by rw [entsFlat_length, HN.out]) (ents_addr (HE1.out.below ((Below.refl w1.heap.size w1).alloc (Nat.le_refl _) _) (Nat.le_refl _))) (ents_one _) (by simp only [maxLen]; omega) (by omega) (by simp) ?_
        intro v3 w3 hown3 hgrow3 hnil3 hat3
        rw [Nat.zero_add] at hown3
        obtain ⟨g3, c3, rfl, hg3, hl3⟩ := own_form9 hown3 hn0
        have hB3 : Below w1.heap.size w1 w3 := ((Below.refl w1.heap.size w1).alloc (Nat.le_refl _) (.cells #[] 98)).grown hgrow3 (by simp) (fun k hk => by have h2 : w1.heap.size = k := Option.some.inj hk; omega)
        have HO3 := Lib.hid hown3
        have HB3 := Lib.hid hB3
        have HG3 := Lib.hid hg3
        have HL3 := Lib.hid hl3
        clear hown3 hgrow3 hnil3 hat3 hB3 hg3 hl3)
      have hh := rhas_any (w3.alloc (.cells #[.slice (some ⟨g3, 0, none⟩) n c3, .int .i64 now, .slice none 0 0] 63)) (some ⟨g3, 0, none⟩) n c3 now none 0 0 now
      unfold RetBo9 at hh
      obtain ⟨T, hT⟩ : ∃ T, T = w3.heap.size := ⟨_, rfl⟩
      obtain ⟨w4, hw4⟩ : ∃ w4, w4 = w3.alloc (.cells #[.slice (some ⟨g3, 0, none⟩) n c3, .int .i64 now, .slice none 0 0] 63) := ⟨_, rfl⟩
      rw [← hw4] at hh ⊢
      rw [← hT]
      have hX4 : w4.heap[T]? = some (.cells #[.slice (some ⟨g3, 0, none⟩) n c3, .int .i64 now, .slice none 0 0] 63 (0, 0)) := by rw [hw4, hT]; exact HK.blk_new _ _
      have hB4 : Below w1.heap.size w1 w4 := by rw [hw4]; exact HB3.out.alloc HB3.out.size _
      have hO4 : w4.ownsRow w1.heap.size 98 4 (.slice (some ⟨g3, 0, none⟩) n c3) n (entsFlat es) := by rw [hw4]; exact own_below9 HO3.out ((Below.refl _ w3).alloc (Nat.le_refl _) _)
      have hg3T : g3 < T := by rw [hT]; exact HL3.out
      have hT1 : w1.heap.size ≤ T := by rw [hT]; exact HB3.out.size
      have HH := Lib.hid hh
      have HX4 := Lib.hid hX4
      have HB4 := Lib.hid hB4
      have HO4 := Lib.hid hO4
      have HT := Lib.hid hg3T
      have HT1 := Lib.hid hT1
      have y0 := HK.blk_cell hX4 0
      have y1 := HK.blk_cell hX4 1
      have y2 := HK.blk_cell hX4 2
      clear hh hX4 hB4 hO4 hg3T hT1 hw4 hT r0 r1 r2 rf b0 hkn hk HL3 HB3 HO3 HSH
      by_cases hno : 0 ≤ now ∧ now < n
      · have hno9 := HH.out
        rw [decide_eq_true hno] at hno9
        have HH9 := Lib.hid hno9
        have HNO := Lib.hid hno
        clear hno9 hno HH
        obtain ⟨x0, hx0⟩ : ∃ x, es[0]? = some x := ⟨_, List.getElem?_eq_getElem (by rw [HN.out]; exact hn0)⟩
        obtain ⟨P, T0, M, S⟩ := x0
        have HX0 := Lib.hid hx0
        clear hx0
        have a0 : (0 : Int) < (n : Int) := by omega
        have hok : ∀ h : Right es now, okAt es 0 ⟨P, T0, M, S⟩ := fun h => h.2.2 0 _ HX0.out
        have HOK := Lib.hid hok
        clear hok
        by_cases q1 : P = -1
        · subst q1
          by_cases q2 : M = ⟨#[]⟩
          · subst q2
            by_cases q3 : T0 = 0
            · subst q3
              go_upto_block 2 with (
                go_at_call 50
                refine HH9.out.mono ?_
                rintro e w5 ⟨rfl, hB5⟩
                have hR5 := blk_up9 hB5 (blk_up9 HB4.out HR1.out)
                obtain ⟨e0, e1, e2, e3⟩ := ((HE1.out.below HB4.out (Nat.le_refl _)).below hB5 (Nat.le_refl _)).c 0 _ HX0.out
                simp only [Nat.zero_mul, Nat.zero_add] at e0 e1 e2 e3
                have HB5 := Lib.hid hB5
                have HR5 := Lib.hid hR5
                clear hB5 hR5)
              have HB15 := Lib.hid (HB4.out.trans (HB5.out.mono HB4.out.size))
              have HE5 := Lib.hid ((HE1.out.below HB4.out (Nat.le_refl _)).below HB5.out (Nat.le_refl _))
              clear y0 y1 y2 e0 e1 e2 e3
              go_wp2_with (fail)
              go_loopw [8] (fun i wr => ∃ k : Nat, k ≤ n ∧ i = .int .i64 k ∧ Below w5.heap.size w5 wr ∧ Hid (OkTo es k)) (fun i _ => n - (intOf i).toNat)
              case atStart => exact ⟨0, Nat.zero_le _, rfl, Below.refl _ _, Lib.hid (fun j x hj => by omega)⟩
              case round =>
                obtain ⟨k, hk, rfl, hB, HO⟩ := hrel
                have hRr := blk_up9 hB HR5.out
                have r0 := HK.blk_cell hRr 0
                have r1 := HK.blk_cell hRr 1
                have r2 := HK.blk_cell hRr 2
                have rf := fun i => HK.blk_frozen hRr i
                have HRr := Lib.hid hRr
                by_cases hkn : (k : Int) < (n : Int)
                · have b0 : (0 : Int) ≤ (k : Int) := by omega
                  obtain ⟨x, hx⟩ : ∃ x, es[k]? = some x := ⟨_, List.getElem?_eq_getElem (by rw [HN.out]; omega)⟩
                  obtain ⟨c0, c1, c2, c3⟩ := (HE5.out.below hB (Nat.le_refl _)).c k x hx
                  obtain ⟨P, T9, M, S⟩ := x
                  simp only at c0 c1 c2 c3
                  have HX := Lib.hid hx
                  have HB := Lib.hid hB
                  have hok : ∀ h : Right es now, okAt es k ⟨P, T9, M, S⟩ := fun h => h.2.2 k _ HX.out
                  have HOKk := Lib.hid hok
                  clear hx hB hRr hok
                  rcases Nat.eq_zero_or_pos k with hk0 | hk0
                  · subst hk0
                    have HOK0 : Hid (okAt es 0 ⟨P, T9, M, S⟩) := Lib.hid (by have h1 := HX.out; rw [HX0.out] at h1; cases h1; simp [okAt])
                    clear c0 c1 c2 c3
                    go_wp2_with (fail)
                    go_quiet (fail)
                    go_wp2_with (fail)
                    go_roundw
                    case rel => exact ⟨0 + 1, by omega, by go_num, bl_dr9 HB.out _, Lib.hid (HO.out.more HX.out HOK0.out)⟩
                    case measure => simp [intOf]; omega
                  · have k0 : (0 : Int) < (k : Int) := by omega
                    have HOKn : Hid (∀ h : Right es now, 0 ≤ P ∧ P < k ∧ ∃ y, es[P.toNat]? = some y ∧ ¬ T9 < y.tick ∧ S ≠ y.state) := Lib.hid (fun h => by have := HOKk.out h; simp only [okAt, if_neg (show ¬ k = 0 by omega)] at this; exact this)
                    by_cases q1 : P < 0
                    · have HNR : Hid (¬ Right es now) := Lib.hid (fun h => by have := (HOKn.out h).1; omega)
                      clear c1 c2 c3
                      go_wp2_with (fail)
                      go_quiet (fail)
                      go_wp2_with (fail)
                      refine bodyPost_ret (results_cell2 (p := 4) (u := 5) (by kernel_rfl) _ _ R 63 _ (0, 0) _ (.int .i64 2) rfl rfl (set3 (HK.blk_drewN HRr.out _) _ _ _) Try.underlying63 rfl (by kernel_rfl)) rfl ?_
                      exact .inr (.inl ⟨HS.out, HNR.out, rfl, HF3.out 0 _ (HB15.out.trans ((bl_dr9 HB.out _).mono HB15.out.size)) (HK.blk_drewN HRr.out _) _ _ _⟩)
                    · obtain ⟨p, rfl⟩ : ∃ p : Nat, P = p := ⟨P.toNat, by omega⟩
                      have d1 : decide ((p : Int) < 0) = false := decide_eq_false (by omega)
                      by_cases q2 : (k : Int) ≤ (p : Int)
                      · have HNR : Hid (¬ Right es now) := Lib.hid (fun h => by have := (HOKn.out h).2.1; omega)
                        have q2' : k ≤ p := by omega
                        clear c1 c2 c3 q1
                        go_wp2_with (fail)
                        go_quiet (fail)
                        go_wp2_with (fail)
                        refine bodyPost_ret (results_cell2 (p := 4) (u := 5) (by kernel_rfl) _ _ R 63 _ (0, 0) _ (.int .i64 2) rfl rfl (set3 (HK.blk_drewN HRr.out _) _ _ _) Try.underlying63 rfl (by kernel_rfl)) rfl ?_
                        exact .inr (.inl ⟨HS.out, HNR.out, rfl, HF3.out 0 _ (HB15.out.trans ((bl_dr9 HB.out _).mono HB15.out.size)) (HK.blk_drewN HRr.out _) _ _ _⟩)
                      · have d2 : decide ((k : Int) ≤ (p : Int)) = false := decide_eq_false q2
                        have d2' : decide (k ≤ p) = false := decide_eq_false (by omega)
                        have p0 : (0 : Int) ≤ (p : Int) := by omega
                        have p1 : (p : Int) < (n : Int) := by omega
                        obtain ⟨y, hy⟩ : ∃ y, es[p]? = some y := ⟨_, List.getElem?_eq_getElem (by rw [HN.out]; omega)⟩
                        obtain ⟨f0, f1, f2, f3⟩ := (HE5.out.below HB.out (Nat.le_refl _)).c p y hy
                        obtain ⟨P2, T2, M2, S2⟩ := y
                        simp only at f0 f1 f2 f3
                        have HY := Lib.hid hy
                        have HOKy : Hid (∀ h : Right es now, ¬ T9 < T2 ∧ S ≠ S2) := Lib.hid (fun h => by obtain ⟨_, _, y, hy, h3, h4⟩ := HOKn.out h; rw [Int.toNat_natCast, HY.out] at hy; cases hy; exact ⟨h3, h4⟩)
                        clear hy q1 q2 f0 f2 c2
                        by_cases q3 : T9 < T2
                        · have HNR : Hid (¬ Right es now) := Lib.hid (fun h => (HOKy.out h).1 q3)
                          clear c3 f3
                          go_wp2_with (fail)
                          go_quiet (fail)
                          go_wp2_with (fail)
                          refine bodyPost_ret (results_cell2 (p := 4) (u := 5) (by kernel_rfl) _ _ R 63 _ (0, 0) _ (.int .i64 2) rfl rfl (set3 (HK.blk_drewN HRr.out _) _ _ _) Try.underlying63 rfl (by kernel_rfl)) rfl ?_
                          exact .inr (.inl ⟨HS.out, HNR.out, rfl, HF3.out 0 _ (HB15.out.trans ((bl_dr9 HB.out _).mono HB15.out.size)) (HK.blk_drewN HRr.out _) _ _ _⟩)
                        · have d3 : decide (T9 < T2) = false := decide_eq_false q3
                          by_cases q4 : S = S2
                          · have HNR : Hid (¬ Right es now) := Lib.hid (fun h => (HOKy.out h).2 q4)
                            have d4 : (S.toList == S2.toList) = true := by rw [q4]; exact bytes_eq S2
                            clear q4
                            go_wp2_with (fail)
                            go_quiet (fail)
                            go_wp2_with (fail)
                            refine bodyPost_ret (results_cell2 (p := 4) (u := 5) (by kernel_rfl) _ _ R 63 _ (0, 0) _ (.int .i64 2) rfl rfl (set3 (HK.blk_drewN HRr.out _) _ _ _) Try.underlying63 rfl (by kernel_rfl)) rfl ?_
                            exact .inr (.inl ⟨HS.out, HNR.out, rfl, HF3.out 0 _ (HB15.out.trans ((bl_dr9 HB.out _).mono HB15.out.size)) (HK.blk_drewN HRr.out _) _ _ _⟩)
                          · have d4 := bytes_ne q4
                            have HOKZ : Hid (okAt es k ⟨(p : Int), T9, M, S⟩) := Lib.hid (by simp only [okAt, if_neg (show ¬ k = 0 by omega)]; exact ⟨by omega, by have := of_decide_eq_false d2; omega, _, by rw [Int.toNat_natCast]; exact HY.out, q3, q4⟩)
                            clear q3 q4
                            go_wp2_with (fail)
                            go_quiet (fail)
                            go_wp2_with (fail)
                            go_roundw
                            case rel => exact ⟨k + 1, by omega, by go_num, bl_dr9 HB.out _, Lib.hid (HO.out.more HX.out HOKZ.out)⟩
                            case measure => simp [intOf]; omega
                · obtain rfl : n = k := by omega
                  have HRT : Hid (Right es now) := Lib.hid ⟨HNO.out.1, by rw [HN.out]; exact HNO.out.2, fun j x hx => HO.out j x (by have := (List.getElem?_eq_some_iff.1 hx).1; rw [HN.out] at this; omega) hx⟩
                  obtain ⟨m, hm⟩ : ∃ m : Nat, now = (m : Int) := ⟨now.toNat, by have := HNO.out.1; omega⟩
                  subst hm
                  obtain ⟨wz, hwz⟩ : ∃ wz, wz = wr := ⟨_, rfl⟩
                  rw [← hwz] at hB hRr r0 r1 r2 rf ⊢
                  have hXz := blk_up9 hB (blk_up9 HB5.out HX4.out)
                  have hOz := own_below9 (own_below9 HO4.out HB5.out) hB
                  have hTz := HK.blk_lt hXz
                  have hRz := HK.blk_lt hRr
                  have hRT : R < T := by have := HT1.out; have := HRL.out; omega
                  have HXz := Lib.hid hXz
                  have HOz := Lib.hid hOz
                  have HTz := Lib.hid hTz
                  have HRT2 := Lib.hid hRT
                  have HRz := Lib.hid hRr
                  have HBz := Lib.hid (HB15.out.trans (hB.mono HB15.out.size))
                  clear hXz hOz hTz hRT hRr hB hwz r0 r1 r2 rf hkn hk hRz
                  go_wp2_with (fail)
                  go_loopw [9] (fun i wr => ∃ (k : Nat) (a : Option Addr) (c9 : Nat), k ≤ n ∧ i = .int .i64 k ∧ wr.heap[T]? = some (.cells #[.slice (some ⟨g3, 0, none⟩) n c3, .int .i64 (m : Int), .slice a k c9] 63 (0, 0)) ∧ wr.ownsRow wz.heap.size 3 1 (.slice a k c9) k (ints (List.range k)) ∧ Frm (fun b => b = T ∨ wz.heap.size ≤ b) wz wr) (fun i _ => n - (intOf i).toNat)
                  case atStart => exact ⟨0, none, 0, Nat.zero_le _, rfl, HXz.out, World.ownsRow_nil _ _ _ _, Frm.refl _ _⟩
                  case round =>
                    obtain ⟨k, a, c9, hk, rfl, hX, hO, hF⟩ := hrel
                    have hTl := HK.blk_lt hX
                    have y0 := HK.blk_cell hX 0
                    have y1 := HK.blk_cell hX 1
                    have y2 := HK.blk_cell hX 2
                    have HX := Lib.hid hX
                    have HO9 := Lib.hid hO
                    have HF9 := Lib.hid hF
                    clear hX hO hF
                    by_cases hkn : (k : Int) < (n : Int)
                    · have b0 : (0 : Int) ≤ (k : Int) := by omega
                      go_wp2_with (
                        at_builtin
                        refine wpList_app1 rfl elem25 _ _ rfl (.slice a k c9) k (ints (List.range k)) rfl (own_mono0 (HO9.out.alloc _)) wr.heap.size 1 #[.int .i64 (k : Int)] rfl (HK.blk_new wr _) rfl (by simp [Value.oneCell']) (by simp only [maxLen]; omega) (by omega) ?_
                        intro g c w' hown hgrow hat hlt
                        have hX' := HK.blk_grown (HK.blk_alloc HX.out (.cells #[.int .i64 (k : Int)] 3)) hgrow (fun h => by have h2 := own_ge HO9.out T h.symm; have := HTz.out; omega)
                        have hg : wz.heap.size ≤ g := by
                          rcases hat with h | h
                          · exact own_ge HO9.out _ h
                          · have := HF9.out.size; simp at h; omega
                        have hF' : Frm (fun b => b = T ∨ wz.heap.size ≤ b) wz w' := (HF9.out.alloc _).grown hgrow (fun k hk => .inl (.inr (own_ge HO9.out k hk)))
                        have y0 := HK.blk_cell hX' 0
                        have y1 := HK.blk_cell hX' 1
                        have y2 := HK.blk_cell hX' 2
                        have yf := fun i => HK.blk_frozen hX' i
                        have HX' := Lib.hid hX'
                        have HG' := Lib.hid hg
                        have HF' := Lib.hid hF'
                        have HO' := Lib.hid hown
                        clear hX' hg hF' hown hgrow hat hlt)
                      go_roundw
                      case rel =>
                        refine ⟨k + 1, _, _, by omega, by go_num, HK.blk_set HX'.out 2 _, ?_, HF'.out.setCell (.inl (.inl rfl)) _⟩
                        have e1 : ints (List.range (k + 1)) = ints (List.range k) ++ [.int .i64 (k : Int)] := by rw [List.range_succ, ints_append]; rfl
                        rw [e1]
                        exact HK.owns_setCell (own_base9 HO'.out HG'.out) (fun h => by have h2 : g = T := Option.some.inj h; have := HTz.out; have := HG'.out; omega) _
                      case measure => simp [intOf]; omega
                    · obtain rfl : n = k := by omega
                      obtain ⟨g9, c8, hf9, hg9, hl9⟩ := own_form9 HO9.out hn0
                      cases hf9
                      have hat := addAll_take HRT.out (by rw [HN.out]; exact hle) es.length (Nat.le_refl _)
                      rw [List.take_length] at hat
                      obtain ⟨hat1, hat2, hat3⟩ := hat
                      have hat4 := hat3 (by rw [HN.out]; exact hn0)
                      rw [HN.out] at hat2
                      have hrow : RowAt wr g9 n (List.range n) := RowAt.of HO9.out (by simp)
                      have hOg := HF9.out.owns HOz.out (fun k e e2 => by have e3 : g3 = k := Option.some.inj e; have e4 : k = T ∨ wz.heap.size ≤ k := e2; have := HT.out; have := HTz.out; omega)
                      have hEg : EntsAt wr g3 (ents (addAll es)) := by rw [hat1]; exact ents_row hOg HN.out (own_lt hOg g3 rfl)
                      have hcall := rlastly_any hat4 wr g3 c3 g9 c9 m n (List.range n) hEg hrow (by rw [hat2]; intro x hx; exact List.mem_range.1 hx) hn0 hle
                      rw [hat2] at hcall
                      have HC := Lib.hid hcall
                      have hRw := HF9.out.heap HRz.out (fun h => by have h2 : R = T ∨ wz.heap.size ≤ R := h; have := HRT2.out; have := HTz.out; omega)
                      have HRw := Lib.hid hRw
                      have HEg := Lib.hid (show EntsAt wr g3 es by rw [← hat1]; exact hEg)
                      have HBw : Hid (Below w1.heap.size w1 wr) := Lib.hid (by
                        have h1 := HBz.out
                        have h2 := HT1.out
                        exact h1.trans (HF9.out.below (B := w1.heap.size) h1.size (fun b e => by have e4 : b = T ∨ wz.heap.size ≤ b := e; have := h1.size; omega)))
                      clear hat1 hat2 hat3 hat4 hrow hOg hEg hcall hRw
                      go_wp2_with (
                        go_at_call 51
                        refine HC.out.mono ?_
                        rintro e w9 ⟨l, g8, c8, rfl, hl1, hl2, hl3, hl4, hl5, hl6⟩
                        have hR9 := blk_up9 hl6 HRw.out
                        have r0 := HK.blk_cell hR9 0
                        have r1 := HK.blk_cell hR9 1
                        have r2 := HK.blk_cell hR9 2
                        have rf := fun i => HK.blk_frozen hR9 i
                        have HR9 := Lib.hid hR9
                        have HL1 := Lib.hid hl1
                        have HL2 := Lib.hid hl2
                        have HL3 := Lib.hid hl3
                        have HL4 := Lib.hid hl4
                        have HL5 := Lib.hid hl5
                        have HL6 := Lib.hid hl6
                        clear hR9 hl1 hl2 hl3 hl4 hl5 hl6)
                      refine bodyPost_ret (results_cell2 (p := 4) (u := 5) (by kernel_rfl) _ _ R 63 _ (0, 0) _ (.int .i64 0) rfl rfl (set3 HR9.out _ _ _) Try.underlying63 rfl (by kernel_rfl)) rfl ?_
                      have hBx : Below w1.heap.size w1 w9 := HBw.out.trans (HL6.out.mono HBw.out.size)
                      have hf8 := set3_frm w9 R (.slice (some ⟨g3, 0, none⟩) n c3) (.int .i64 (m : Int)) (.slice (some ⟨g8, 0, none⟩) (n + 1) c8)
                      have hRlt : R < w1.heap.size := HRL.out
                      have hw0 := HB1.out.size
                      have hw9 := HBw.out.size
                      have hl5 := HL5.out
                      have hg1 : w1.heap.size ≤ g3 := own_ge HO4.out g3 rfl
                      have hfa : ∀ b, b ≠ R → b < w9.heap.size → (((w9.setCell ⟨R, 0, none⟩ (.slice (some ⟨g3, 0, none⟩) n c3)).setCell ⟨R, 1, none⟩ (.int .i64 (m : Int))).setCell ⟨R, 2, none⟩ (.slice (some ⟨g8, 0, none⟩) (n + 1) c8)).heap[b]? = w9.heap[b]? := fun b hb hlt => hf8.block b hlt (fun e => hb e)
                      have hE9 : EntsAt w9 g3 es := HEg.out.below HL6.out (Nat.le_refl _)
                      refine .inr (.inr ⟨HS.out, m, rfl, HRT.out, g3, c3, g8, c8, l, rfl, ⟨fun i x hx => ?_, ?_⟩, ⟨HL4.out.len, fun j x hx => ?_, ?_⟩, ?_, by omega, by omega, HF3.out 0 w9 hBx HR9.out _ _ _⟩)
                      · have hcg := hfa g3 (by omega) hE9.lt
                        obtain ⟨i0, i1, i2, i3⟩ := hE9.c i x hx
                        exact ⟨(World.cell?_of_block (a := ⟨g3, i * 4, none⟩) hcg).trans i0, (World.cell?_of_block (a := ⟨g3, i * 4 + 1, none⟩) hcg).trans i1, (World.cell?_of_block (a := ⟨g3, i * 4 + 2, none⟩) hcg).trans i2, (World.cell?_of_block (a := ⟨g3, i * 4 + 3, none⟩) hcg).trans i3⟩
                      · have := hE9.lt; simpa using this
                      · exact (World.cell?_of_block (a := ⟨g8, j, none⟩) (hfa g8 (by omega) HL4.out.lt)).trans (HL4.out.cell j x hx)
                      · have := HL4.out.lt; simpa using this
                      · refine FavOk.opened HRT.out (by rw [HN.out]; exact hle) (fun x hx => by rw [HN.out]; exact List.mem_range.1 ((HL2.out x).1 hx)) (fun x hx => (HL2.out x).2 (List.mem_range.2 (by rw [HN.out] at hx; exact hx))) (fun a b x y hab hx hy => ?_)
                        exact HL3.out a b x y (by have := (List.getElem?_eq_some_iff.1 hx).1; rw [HL1.out] at this; exact this) hab hx hy
            · have p3 : (T0 == 0) = false := by simpa using q3
              have p3' : (T0 != 0) = true := by simpa using q3
              have HNR : Hid (¬ Right es now) := Lib.hid (fun h => q3 (by have := HOK.out h; simp [okAt] at this; exact this))
              clear q3
              go_wp2_with (
                go_at_call 50
                refine HH9.out.mono ?_
                rintro e w5 ⟨rfl, hB5⟩
                have hR5 := blk_up9 hB5 (blk_up9 HB4.out HR1.out)
                obtain ⟨e0, e1, e2, e3⟩ := ((HE1.out.below HB4.out (Nat.le_refl _)).below hB5 (Nat.le_refl _)).c 0 _ HX0.out
                simp only [Nat.zero_mul, Nat.zero_add] at e0 e1 e2 e3
                have r0 := HK.blk_cell hR5 0
                have r1 := HK.blk_cell hR5 1
                have r2 := HK.blk_cell hR5 2
                have rf := fun i => HK.blk_frozen hR5 i
                have HB5 := Lib.hid hB5
                have HR5 := Lib.hid hR5
                clear hB5 hR5)
              refine bodyPost_ret (results_cell2 (p := 4) (u := 5) (by kernel_rfl) _ _ R 63 _ (0, 0) _ (.int .i64 2) rfl rfl (set3 HR5.out _ _ _) Try.underlying63 rfl (by kernel_rfl)) rfl ?_
              exact .inr (.inl ⟨HS.out, HNR.out, rfl, HF3.out 0 _ (HB4.out.trans (HB5.out.mono HB4.out.size)) HR5.out _ _ _⟩)
          · have p2 := bytes_isEmpty q2
            have HNR : Hid (¬ Right es now) := Lib.hid (fun h => q2 (by have := HOK.out h; simp [okAt] at this; exact this.1))
            clear q2
            go_wp2_with (
              go_at_call 50
              refine HH9.out.mono ?_
              rintro e w5 ⟨rfl, hB5⟩
              have hR5 := blk_up9 hB5 (blk_up9 HB4.out HR1.out)
              obtain ⟨e0, e1, e2, e3⟩ := ((HE1.out.below HB4.out (Nat.le_refl _)).below hB5 (Nat.le_refl _)).c 0 _ HX0.out
              simp only [Nat.zero_mul, Nat.zero_add] at e0 e1 e2 e3
              have r0 := HK.blk_cell hR5 0
              have r1 := HK.blk_cell hR5 1
              have r2 := HK.blk_cell hR5 2
              have rf := fun i => HK.blk_frozen hR5 i
              have HB5 := Lib.hid hB5
              have HR5 := Lib.hid hR5
              clear hB5 hR5)
            refine bodyPost_ret (results_cell2 (p := 4) (u := 5) (by kernel_rfl) _ _ R 63 _ (0, 0) _ (.int .i64 2) rfl rfl (set3 HR5.out _ _ _) Try.underlying63 rfl (by kernel_rfl)) rfl ?_
            exact .inr (.inl ⟨HS.out, HNR.out, rfl, HF3.out 0 _ (HB4.out.trans (HB5.out.mono HB4.out.size)) HR5.out _ _ _⟩)
        · have p1 : (P == -1) = false := by simpa using q1
          have p1' : (P != -1) = true := by simpa using q1
          have HNR : Hid (¬ Right es now) := Lib.hid (fun h => q1 (by have := HOK.out h; simp [okAt] at this; exact this.1))
          clear q1
          go_wp2_with (
            go_at_call 50
            refine HH9.out.mono ?_
            rintro e w5 ⟨rfl, hB5⟩
            have hR5 := blk_up9 hB5 (blk_up9 HB4.out HR1.out)
            obtain ⟨e0, e1, e2, e3⟩ := ((HE1.out.below HB4.out (Nat.le_refl _)).below hB5 (Nat.le_refl _)).c 0 _ HX0.out
            simp only [Nat.zero_mul, Nat.zero_add] at e0 e1 e2 e3
            have r0 := HK.blk_cell hR5 0
            have r1 := HK.blk_cell hR5 1
            have r2 := HK.blk_cell hR5 2
            have rf := fun i => HK.blk_frozen hR5 i
            have HB5 := Lib.hid hB5
            have HR5 := Lib.hid hR5
            clear hB5 hR5)
          refine bodyPost_ret (results_cell2 (p := 4) (u := 5) (by kernel_rfl) _ _ R 63 _ (0, 0) _ (.int .i64 2) rfl rfl (set3 HR5.out _ _ _) Try.underlying63 rfl (by kernel_rfl)) rfl ?_
          exact .inr (.inl ⟨HS.out, HNR.out, rfl, HF3.out 0 _ (HB4.out.trans (HB5.out.mono HB4.out.size)) HR5.out _ _ _⟩)
      · have hno9 := HH.out
        rw [decide_eq_false hno] at hno9
        have HH9 := Lib.hid hno9
        have HNR : Hid (¬ Right es now) := Lib.hid (fun h => hno ⟨h.1, by have := h.2.1; rw [HN.out] at this; exact this⟩)
        clear hno9 hno HH
        go_wp2_with (
          go_at_call 50
          refine HH9.out.mono ?_
          rintro e w5 ⟨rfl, hB5⟩
          have hR5 := blk_up9 hB5 (blk_up9 HB4.out HR1.out)
          have r0 := HK.blk_cell hR5 0
          have r1 := HK.blk_cell hR5 1
          have r2 := HK.blk_cell hR5 2
          have rf := fun i => HK.blk_frozen hR5 i
          have HB5 := Lib.hid hB5
          have HR5 := Lib.hid hR5
          clear hB5 hR5)
        refine bodyPost_ret (results_cell2 (p := 4) (u := 5) (by kernel_rfl) _ _ R 63 _ (0, 0) _ (.int .i64 2) rfl rfl (set3 HR5.out _ _ _) Try.underlying63 rfl (by kernel_rfl)) rfl ?_
        exact .inr (.inl ⟨HS.out, HNR.out, rfl, HF3.out 0 _ (HB4.out.trans (HB5.out.mono HB4.out.size)) HR5.out _ _ _⟩)
end Go.Proofs.Ythneinepdbkgeaa
namespace Go.Proofs.Ythneinepdbkgeaa
open Go.RowKit Go.HK
set_option linter.unusedVariables false
set_option linter.unusedSimpArgs false
set_option linter.unusedSectionVars false
def RetOpN9 (w : World) (k : Int) (e : Ending) (w' : World) : Prop := e = .returned (.tuple #[.agg #[.slice none 0 0, .int .i64 0, .slice none 0 0], .int .i64 k]) ∧ Below w.heap.size w w'
set_option maxRecDepth 100000 in
set_option maxHeartbeats 4000000 in
theorem ropen_full (w : World) (a : Option Addr) (n c : Nat) (now : Int) (hn : 1000 < n) (hm : n ≤ maxLen) : Calls Try.prog 29 #[.slice a n c, .int .i64 now] w (RetOpN9 w 4) := by
  unfold maxLen at hm
  obtain ⟨R, hR⟩ : ∃ R, R = w.heap.size := ⟨_, rfl⟩
  obtain ⟨w1, hw1⟩ : ∃ w1, w1 = w.alloc (.cells #[.slice none 0 0, .int .i64 0, .slice none 0 0] 63) := ⟨_, rfl⟩
  have hB1 : Below w.heap.size w w1 := by rw [hw1]; exact (Below.refl _ w).alloc (Nat.le_refl _) _
  have hR1 : w1.heap[R]? = some (.cells #[.slice none 0 0, .int .i64 0, .slice none 0 0] 63 (0, 0)) := by rw [hw1, hR]; exact HK.blk_new _ _
  have r0 := HK.blk_cell hR1 0
  have r1 := HK.blk_cell hR1 1
  have r2 := HK.blk_cell hR1 2
  have rf := fun i => HK.blk_frozen hR1 i
  have g0 : (1000 : Int) < (n : Int) := by omega
  have HW1 := Lib.hid hw1
  have HR := Lib.hid hR
  have HB1 := Lib.hid hB1
  have HR1 := Lib.hid hR1
  clear hw1 hR hB1 hR1
  go_enter Try.func29, Try.ntmps29
  go_upto_region 1 with (fail)
  rw [← HW1.out, ← HR.out]
  go_wp2_with (fail)
  refine bodyPost_ret (results_cell2 (p := 4) (u := 5) (by kernel_rfl) _ _ R 63 _ (0, 0) _ (.int .i64 4) rfl rfl (set3 HR1.out _ _ _) Try.underlying63 rfl (by kernel_rfl)) rfl ?_
  exact ⟨rfl, HB1.out.trans ((set3_frm w1 R _ _ _).below (B := w.heap.size) HB1.out.size (fun b e => by have := HR.out; omega))⟩
set_option maxRecDepth 100000 in
set_option maxHeartbeats 4000000 in
theorem ropen_nil (w : World) (now : Int) : Calls Try.prog 29 #[.slice none 0 0, .int .i64 now] w (RetOpN9 w 2) := by
  obtain ⟨R, hR⟩ : ∃ R, R = w.heap.size := ⟨_, rfl⟩
  obtain ⟨w1, hw1⟩ : ∃ w1, w1 = w.alloc (.cells #[.slice none 0 0, .int .i64 0, .slice none 0 0] 63) := ⟨_, rfl⟩
  have hB1 : Below w.heap.size w w1 := by rw [hw1]; exact (Below.refl _ w).alloc (Nat.le_refl _) _
  have hR1 : w1.heap[R]? = some (.cells #[.slice none 0 0, .int .i64 0, .slice none 0 0] 63 (0, 0)) := by rw [hw1, hR]; exact HK.blk_new _ _
  have hh := fun (W : World) (ea : Option Addr) (ce : Nat) => rhas_any W ea 0 ce now none 0 0 now
  have hd : decide (0 ≤ now ∧ now < ((0 : Nat) : Int)) = false := decide_eq_false (by omega)
  unfold RetBo9 at hh
  rw [hd] at hh
  have HH := Lib.hid hh
  have HW1 := Lib.hid hw1
  have HR := Lib.hid hR
  have HB1 := Lib.hid hB1
  have HR1 := Lib.hid hR1
  clear hw1 hR hB1 hR1 hh hd
  go_enter Try.func29, Try.ntmps29
  go_upto_region 1 with (fail)
  rw [← HW1.out, ← HR.out]
  go_wp2_with (fail)
  go_loopw [6] (fun i wr => i = .int .i64 0 ∧ w1 = wr) (fun i _ => 0)
  case atStart => exact ⟨rfl, rfl⟩
  case round =>
    obtain ⟨rfl, rfl⟩ := hrel
    go_upto_region 9 with (fail)
    go_wp2_with (
      go_at_call 50
      refine (HH.out _ _ _).mono ?_
      rintro e w5 ⟨rfl, hB5⟩
      have hR5 := blk_up9 hB5 (show _ = some (Obj.cells #[.slice none 0 0, .int .i64 0, .slice none 0 0] 63 (0, 0)) from by first | exact HK.blk_alloc (HK.blk_alloc HR1.out _) _ | exact HK.blk_alloc (HK.blk_drew (HK.blk_alloc HR1.out _)) _)
      have hB6 : Below w1.heap.size w1 w5 := (show Below w1.heap.size w1 _ from by first | exact ((Below.refl _ w1).alloc (Nat.le_refl _) _).alloc (by simp) _ | exact (((Below.refl _ w1).alloc (Nat.le_refl _) _).drew).alloc (by simp) _).trans (hB5.mono (by simp; omega))
      have r0 := HK.blk_cell hR5 0
      have r1 := HK.blk_cell hR5 1
      have r2 := HK.blk_cell hR5 2
      have rf := fun i => HK.blk_frozen hR5 i
      have HB6 := Lib.hid hB6
      have HR5 := Lib.hid hR5
      clear hB5 hB6 hR5)
    refine bodyPost_ret (results_cell2 (p := 4) (u := 5) (by kernel_rfl) _ _ R 63 _ (0, 0) _ (.int .i64 2) rfl rfl (set3 HR5.out _ _ _) Try.underlying63 rfl (by kernel_rfl)) rfl ?_
    have h9 := HB1.out.trans (HB6.out.mono HB1.out.size)
    exact ⟨rfl, h9.trans ((set3_frm w5 R _ _ _).below (B := w.heap.size) h9.size (fun b e => by have := HR.out; omega))⟩
end Go.Proofs.Ythneinepdbkgeaa
