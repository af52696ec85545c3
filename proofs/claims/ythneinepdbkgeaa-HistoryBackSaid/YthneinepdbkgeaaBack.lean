/- The walk of HistoryBack. -/
import Derived.Test.YthneinepdbkgeaaActn
import Derived.Test.YthneinepdbkgeaaBackp
namespace Go.Proofs.Ythneinepdbkgeaa
open Go.RowKit Go.HK
set_option linter.unusedVariables false
set_option linter.unusedSimpArgs false
set_option linter.unusedSectionVars false
def lenOf : Value → Nat
  | .slice _ n _ => n
  | _ => 0
theorem AcV.len {w wr : World} {t m : Nat} {F : List Nat} {s : HS} {NS : List Nat} {SS : List ByteArray} {p q v : Value} {xs : List Nat} (h : AcV w t F s m NS SS p q v xs wr) : lenOf v = xs.length := by
  rcases h.vn.2 with ⟨rfl, h0⟩ | ⟨g, c, cur, rfl, _⟩
  · exact h0.symm
  · rfl
theorem app_row {w wr w4 : World} {t m : Nat} {F : List Nat} {s : HS} {NS : List Nat} {SS : List ByteArray} {p q v : Value} {xs : List Nat} (h : AcV w t F s m NS SS p q v xs wr) (hB : Below wr.heap.size wr w4) (o : Obj) : (w4.alloc o).ownsRow 0 3 1 v xs.length (ints xs) :=
  owns_mono (h.stay hB |>.stay ((Below.refl _ w4).alloc (Nat.le_refl _) o)).vn (Nat.zero_le _)
theorem AcV.cell {w wr : World} {t m : Nat} {F : List Nat} {s : HS} {NS : List Nat} {SS : List ByteArray} {p q : Value} {g n c : Nat} {xs : List Nat} (h : AcV w t F s m NS SS p q (.slice (some ⟨g, 0, none⟩) n c) xs wr) {j y : Nat} (hj : xs[j]? = some y) : wr.cell? ⟨g, j, none⟩ = some (.int .i64 y) := by
  have hl := (List.getElem?_eq_some_iff.1 hj).1
  have hn : n = xs.length := h.len
  subst hn
  rw [h.vn.cellAt j (by omega)]
  simp [ints, hj]
/-- The tree behind the Do of HistoryBack. -/
def backS (s : HS) (new note : ByteArray) : HS := (lead (addN s.1 s.2 60 note new) s.1.length, s.1.length)
section
variable {w w7 : World} {t m : Nat} {F : List Nat} {s : HS} {NS : List Nat} {SS : List ByteArray} {p q : Value}
theorem back_do (hW : AcW w t F s m NS SS p q w7) (hAc : Ac 60 s.1 NS SS) (new note : ByteArray) (hn : new.size = 3) (hno : note.size ≤ 100) : Calls Try.prog 17 #[.pointer (some ⟨t, 0, none⟩), .string new, .string note, .int .i64 60] w7 fun e w' =>
    e = .returned (.tuple #[.int .i64 s.1.length, .int .i64 0]) ∧ ∃ F', AcW w t F' (backS s new note) m NS SS p q w' := by
  refine (do_any hW.h new note 60 (by omega) hno).mono fun e w' ⟨_, h1⟩ => ?_
  have hd : doR s.1 s.2 new note 60 = none := by
    unfold doR
    have h1 := hAc.tick s.2 hW.h.1.now
    have h2 := hAc.len
    rw [if_neg (by omega), if_neg (fun e => ?_), if_neg (by omega)]
    have := hAc.sz s.2 hW.h.1.now
    rw [← e] at this
    omega
  obtain ⟨h2, h3⟩ := h1 hd
  exact ⟨h2, hW.step (s' := backS s new note) h3⟩
theorem back_undo {new note : ByteArray} (hW : AcW w t F (backS s new note) m NS SS p q w7) (hwf : WF s.1 s.2) : Calls Try.prog 15 #[.pointer (some ⟨t, 0, none⟩)] w7 fun e w' =>
    e = .returned (.tuple #[.string (stateF s.1 s.2), .int .i64 0]) ∧ ∃ F', AcW w t F' ((backS s new note).1, s.2) m NS SS p q w' := by
  have hpos := hwf.pos
  have hnow := hwf.now
  have e1 : parF (backS s new note).1 (backS s new note).2 = s.2 := by
    show parF (leadL _ _ _) s.1.length = _
    rw [parF_leadL, parF_addN, if_pos rfl]
  have e2 : stateF (backS s new note).1 s.2 = stateF s.1 s.2 := by
    show stateF (leadL _ _ _) _ = _
    rw [stateF_leadL, stateF_addN, if_neg (by omega)]
  refine (undo_up hW.h (show s.1.length ≠ 0 by omega)).mono fun e w' ⟨h1, h2⟩ => ?_
  rw [e1, Int.toNat_natCast, e2] at h1
  rw [e1, Int.toNat_natCast] at h2
  exact ⟨h1, hW.step (s' := ((backS s new note).1, s.2)) h2⟩
end
def His (nodes : List Go.HK.HN) (NS : List Nat) (SS : List ByteArray) : Prop := ∀ (j x : Nat), NS[j]? = some x → x < nodes.length ∧ SS[j]? = some (stateF nodes x)
theorem His.back {s : HS} {k : Nat} {NS : List Nat} {SS : List ByteArray} (h : Ac k s.1 NS SS) (new note : ByteArray) : His (backS s new note).1 NS SS := by
  intro j x hj
  have := h.his j x hj
  have e : (backS s new note).1.length = s.1.length + 1 := by
    show (HK.lead _ _).length = _
    rw [lead_length]; simp
  rw [e]
  refine ⟨by omega, ?_⟩
  show _ = some (stateF (leadL _ _ _) _)
  rw [stateF_leadL, stateF_addN, if_neg (by omega)]
  exact this.2
theorem His.lead {nodes : List Go.HK.HN} {NS : List Nat} {SS : List ByteArray} (h : His nodes NS SS) (n : Nat) : His (lead nodes n) NS SS := by
  intro j x hj
  have := h j x hj
  rw [lead_length]
  refine ⟨this.1, ?_⟩
  show _ = some (stateF (leadL _ _ _) _)
  rw [stateF_leadL]
  exact this.2
theorem AcW.cellP {w wr : World} {t m : Nat} {F : List Nat} {s : HS} {NS : List Nat} {SS : List ByteArray} {q : Value} {g c : Nat} (h : AcW w t F s m NS SS (.slice (some ⟨g, 0, none⟩) m c) q wr) {j y : Nat} (hj : NS[j]? = some y) : wr.cell? ⟨g, j, none⟩ = some (.int .i64 y) := by
  have hl := (List.getElem?_eq_some_iff.1 hj).1
  have := h.nl
  rw [h.pn.cellAt j (by omega)]
  simp [ints, hj]
theorem AcW.cellQ {w wr : World} {t m : Nat} {F : List Nat} {s : HS} {NS : List Nat} {SS : List ByteArray} {p : Value} {g c : Nat} (h : AcW w t F s m NS SS p (.slice (some ⟨g, 0, none⟩) m c) wr) {j : Nat} {y : ByteArray} (hj : SS[j]? = some y) : wr.cell? ⟨g, j, none⟩ = some (.string y) := by
  have hl := (List.getElem?_eq_some_iff.1 hj).1
  have := h.sl
  rw [h.qn.cellAt j (by omega)]
  simp [strs, hj]
def TrueR (w : World) (e : Ending) (w' : World) : Prop := e = .returned (.bool true) ∧ Below w.heap.size w w'
set_option maxRecDepth 100000 in
set_option maxHeartbeats 8000000 in
theorem back_walk (w : World) (v0 : Value) (hacted : ∀ w', Below w.heap.size w w' → Calls Try.prog 13 #[v0] w' (ActedR w')) : Calls Try.prog 3 #[v0] w (TrueR w) := by
  have HA := Lib.hid hacted
  clear hacted
  go_enter Try.func3, Try.ntmps3
  go_wp2_with (first
    | (go_at_call 12; refine (awake_any _).mono ?_; rintro e w1 ⟨rfl, hB1⟩)
    | (go_at_call 13; refine (HA.out _ hB1).mono ?_; rintro e w2 ⟨t, F, s, m, NS, SS, p, q, rfl, hW, hAc, hL, hm0, hm1⟩; obtain ⟨gp, cp, rfl, _⟩ := hW.pn.form hm0; obtain ⟨gq, cq, rfl, _⟩ := hW.qn.form hm0)
    | (go_at_call 14; refine (now_any hW.h).mono ?_; rintro e w3 ⟨rfl, hB3⟩))
  have hV0 : AcV w1 t F (s.1, s.2) m NS SS (.slice (some ⟨gp, 0, none⟩) m cp) (.slice (some ⟨gq, 0, none⟩) m cq) (.slice none 0 0) [] w3 := AcV.of (hW.stay hB3)
  have hwf := hW.h.1
  have hul := upL_len hwf hwf.now
  have HAc := Lib.hid hAc
  have HL := Lib.hid hL
  have HB1 := Lib.hid hB1
  have HWF := Lib.hid hwf
  have HUL := Lib.hid hul
  clear hW hAc hL hB1 hB3 hwf hul
  go_loopw [9] (fun v wr => ∃ (F : List Nat) (x : Nat) (xs : List Nat), AcV w1 t F (s.1, x) m NS SS (.slice (some ⟨gp, 0, none⟩) m cp) (.slice (some ⟨gq, 0, none⟩) m cq) v xs wr ∧ upL s.1 s.2 = xs ++ upL s.1 x) (fun v _ => 1001 - lenOf v)
  case atStart => exact ⟨F, s.2, [], hV0, rfl⟩
  case round =>
    obtain ⟨F, x, xs, hV, hxs⟩ := hrel
    clear hV0
    have hxl : xs.length < 1000 := by
      have h1 := HUL.out
      rw [hxs, upL_cons HWF.out hV.a.h.1.now] at h1
      simp at h1; omega
    have HV := Lib.hid hV
    have HXS := Lib.hid hxs
    clear hV hxs
    by_cases h0 : x = 0
    · subst h0
      go_wp2_with (first
        | (go_at_call 14; refine (now_any HV.out.a.h).mono ?_; rintro e w4 ⟨rfl, hB4⟩)
        | (at_builtin
           refine wpList_app1 rfl elem25 _ _ rfl u9 xs.length (ints xs) rfl (app_row HV.out hB4 _) w4.heap.size 1 #[.int .i64 (0 : Nat)] rfl (blk_new w4 _) rfl (by simp [Value.oneCell']) (by simp only [maxLen]; omega) (by omega) ?_
           intro gg cap w5 hown5 hgrow5 hat5 hlt5
           have HV5 := Lib.hid ((HV.out.stay hB4).app hown5 hgrow5 hat5))
        | (go_at_call 15; refine (undo_root HV5.out.a.h).mono ?_; rintro e w6 ⟨rfl, rfl⟩))
      have hall : upL s.1 s.2 = xs ++ [0] := by rw [HXS.out, upL_zero HWF.out]
      have HALL := Lib.hid hall
      clear HV hB4 hall
      go_loopw [14] (fun i wr => ∃ (F : List Nat) (j x : Nat), i = .int .i64 ((j : Int) - 1) ∧ AcV w1 t F (s.1, x) m NS SS (.slice (some ⟨gp, 0, none⟩) m cp) (.slice (some ⟨gq, 0, none⟩) m cq) (.slice (some ⟨gg, 0, none⟩) (xs.length + 1) cap) (xs ++ [0]) wr ∧ (upL s.1 s.2)[j]? = some x) (fun i _ => (intOf i + 1).toNat)
      case atStart => exact ⟨F, xs.length, 0, by go_num, HV5.out, by rw [HALL.out]; simp⟩
      case round =>
        clear HV5 hgrow5 hown5 hat5 hlt5
        obtain ⟨F, j, x, hi, hV, hjx⟩ := hrel
        have HV := Lib.hid hV
        have HJX := Lib.hid hjx
        clear hV hjx
        rcases Nat.eq_zero_or_pos j with rfl | hj
        · have hi' : u14 = .int .i64 (-1) := hi
          subst hi'
          clear hi
          go_wp2_with (fail)
          have hx0 : x = s.2 := by
            have h1 := HJX.out
            rw [upL_cons HWF.out HWF.out.now] at h1
            simpa using h1.symm
          subst hx0
          have hV9 : AcW w1 t F (s.1, s.2) m NS SS (.slice (some ⟨gp, 0, none⟩) m cp) (.slice (some ⟨gq, 0, none⟩) m cq) wr := HV.out.a
          clear HV HJX
          go_loopw [19] (fun i wr => ∃ (F : List Nat) (k y : Nat), i = .int .i64 k ∧ AcW w1 t F (s.1, y) m NS SS (.slice (some ⟨gp, 0, none⟩) m cp) (.slice (some ⟨gq, 0, none⟩) m cq) wr ∧ Down s.1 s.2 k y) (fun i _ => 61 - (intOf i).toNat)
          case atStart => exact ⟨F, 0, s.2, rfl, hV9, Down.zero⟩
          case round =>
            clear hV9
            obtain ⟨F, k, y, rfl, hV, hD⟩ := hrel
            have hky := hD.ge HWF.out
            have hlen := HAc.out.len
            have HV := Lib.hid hV
            have HD := Lib.hid hD
            clear hV hD
            rcases HV.out.h.1.fav y HV.out.h.1.now with hf | ⟨z, hf, hzl, hzp⟩
            · have HF := Lib.hid hf
              clear hf
              go_wp2_with (go_at_call 16; refine (redo_none HV.out.h HF.out).mono ?_; rintro e w6 ⟨rfl, hB6⟩; have hV6 := HV.out.stay hB6)
              have HD' := HD
              have hk60 : k ≤ 60 := by omega
              clear HF HD hky hlen
              have hV9 := hV6
              clear hV6 HV
              go_loopw [110] (fun i wr => ∃ (F : List Nat) (j y : Nat), j ≤ k ∧ i = .int .i64 j ∧ AcW w1 t F (s.1, y) m NS SS (.slice (some ⟨gp, 0, none⟩) m cp) (.slice (some ⟨gq, 0, none⟩) m cq) wr ∧ Down s.1 s.2 (k - j) y) (fun i _ => k - (intOf i).toNat)
              case atStart => exact ⟨F, 0, y, by omega, rfl, hV9, HD'.out⟩
              case round =>
                clear hV9 HD'
                obtain ⟨F, j, y, hjk, rfl, hV, hD⟩ := hrel
                have HV := Lib.hid hV
                have HD := Lib.hid hD
                clear hV hD
                by_cases hj : j < k
                · have b1 : (j : Int) < (k : Int) := by omega
                  have hb := (show Down s.1 s.2 (k - (j + 1) + 1) y by rw [show k - (j + 1) + 1 = k - j by omega]; exact HD.out).back HWF.out
                  have HB := Lib.hid hb
                  clear hb
                  go_wp2_with (go_at_call 15; refine (undo_up HV.out.h HB.out.1).mono ?_; rintro e w6 ⟨rfl, hP6⟩; obtain ⟨F6, hV6⟩ := HV.out.step (s' := (s.1, (parF s.1 y).toNat)) hP6)
                  go_roundw
                  case rel => exact ⟨F6, j + 1, _, by omega, by go_num, hV6, HB.out.2⟩
                  case measure => simp [intOf]; omega
                · have b1 : ¬ ((j : Int) < (k : Int)) := by omega
                  have hy : y = s.2 := (show Down s.1 s.2 0 y by rw [show 0 = k - j by omega]; exact HD.out).one
                  subst hy
                  clear HD hj hjk
                  go_wp2_with (first
                    | (go_at_call 14; refine (now_any HV.out.h).mono ?_; rintro e w7 ⟨rfl, hB7⟩; have HV7 := Lib.hid (HV.out.stay hB7))
                    | (go_at_call 17; refine (back_do (s := s) HV7.out HAc.out ⟨#[110, 101, 119]⟩ ⟨#[97, 32, 110, 111, 116, 101]⟩ rfl (by decide)).mono ?_; rintro e w8 ⟨rfl, F8, hV8⟩; have HV8 := Lib.hid hV8; clear hV8)
                    | (go_at_call 15; refine (back_undo (s := s) HV8.out HWF.out).mono ?_; rintro e w9 ⟨rfl, F9, hV9⟩; have HV9 := Lib.hid hV9; clear hV9)
                    | (go_at_call 14; refine (now_any HV9.out.h).mono ?_; rintro e wa ⟨rfl, hBa⟩; have HVa := Lib.hid (HV9.out.stay hBa)))
                  have hVb := HVa.out
                  have hhis := His.back HAc.out ⟨#[110, 101, 119]⟩ ⟨#[97, 32, 110, 111, 116, 101]⟩
                  clear HVa HV9 HV8 HV7 HV hB7 hBa
                  go_loopw [164] (fun i wr => ∃ (F : List Nat) (s' : HS) (j : Nat), j ≤ m ∧ i = .int .i64 j ∧ AcW w1 t F s' m NS SS (.slice (some ⟨gp, 0, none⟩) m cp) (.slice (some ⟨gq, 0, none⟩) m cq) wr ∧ His s'.1 NS SS) (fun i _ => m - (intOf i).toNat)
                  case atStart => exact ⟨F9, _, 0, by omega, rfl, hVb, hhis⟩
                  case round =>
                    clear hVb hhis
                    obtain ⟨F, s', j, hjm, rfl, hV, hhis⟩ := hrel
                    have HV := Lib.hid hV
                    have HH := Lib.hid hhis
                    clear hV hhis
                    by_cases hj : j < m
                    · obtain ⟨x, hx⟩ : ∃ x, NS[j]? = some x := ⟨_, List.getElem?_eq_getElem (by have := HV.out.nl; omega)⟩
                      have hxs := HH.out j x hx
                      have b0 : (0 : Int) ≤ (j : Int) := by omega
                      have b1 : (j : Int) < (m : Int) := by omega
                      have cx := HV.out.cellP hx
                      have HX := Lib.hid hxs
                      clear hxs hx
                      go_wp2_with (go_at_call 18; refine (go_yes HV.out.h x HX.out.1).mono ?_; rintro e w6 ⟨rfl, hP6⟩; obtain ⟨F6, hV6⟩ := HV.out.step (s' := goS s' x) hP6; have cy := hV6.cellQ HX.out.2; have HV6 := Lib.hid hV6; clear hV6)
                      go_roundw
                      case rel => exact ⟨F6, goS s' x, j + 1, by omega, by go_num, HV6.out, HH.out.lead x⟩
                      case measure => simp [intOf]; omega
                    · have b1 : ¬ ((j : Int) < (m : Int)) := by omega
                      go_wp2_with (fail)
                      go_ret
                      exact ⟨rfl, HB1.out.trans (HV.out.b.mono HB1.out.size)⟩
            · have HF := Lib.hid hf
              have HZ := Lib.hid hzl
              have HZP := Lib.hid hzp
              have hD2 := HD.out.succ hf hzp hzl
              have hkz := hD2.ge HWF.out
              have b1 : (k : Int) ≤ 60 := by omega
              have b2 : ¬ ((60 : Int) < (k : Int)) := by omega
              have HD2 := Lib.hid hD2
              clear hf hzl hzp hD2 hky hlen
              go_wp2_with (go_at_call 16; refine (redo_down HV.out.h z HF.out HZ.out).mono ?_; rintro e w6 ⟨rfl, hP6⟩; obtain ⟨F6, hV6⟩ := HV.out.step (s' := (s.1, z)) hP6)
              go_roundw
              case rel => exact ⟨F6, k + 1, z, by go_num, hV6, HD2.out⟩
              case measure => simp [intOf]; omega
        · obtain ⟨k, rfl⟩ : ∃ k, j = k + 1 := ⟨j - 1, by omega⟩
          have hi' : u14 = .int .i64 (k : Int) := by rw [hi]; congr 1; omega
          subst hi'
          clear hi hj
          have hkl : k < (upL s.1 s.2).length := by have := (List.getElem?_eq_some_iff.1 HJX.out).1; omega
          obtain ⟨y, hy⟩ : ∃ y, (upL s.1 s.2)[k]? = some y := ⟨_, List.getElem?_eq_getElem hkl⟩
          have hkl2 : k < xs.length + 1 := by rw [HALL.out] at hkl; simpa using hkl
          have hled := led_next HWF.out HL.out hy HJX.out
          have HY := Lib.hid hy
          have HLED := Lib.hid hled
          have b0 : (0 : Int) ≤ (k : Int) := by omega
          have b1 : (k : Int) < (xs.length : Int) + 1 := by omega
          clear hy hled hkl
          go_wp2_with (first
            | (go_at_call 16; refine (redo_down HV.out.a.h y HLED.out.1 HLED.out.2).mono ?_; rintro e w6 ⟨rfl, hP6⟩; obtain ⟨F6, hV6⟩ := HV.out.step (s' := (s.1, y)) hP6)
            | (go_at_call 14; refine (now_any hV6.a.h).mono ?_; rintro e w7 ⟨rfl, hB7⟩; have hV7 := hV6.stay hB7; have cy := hV7.cell (j := k) (y := y) (by rw [← HALL.out]; exact HY.out); have HV7 := Lib.hid hV7; clear hV7 hV6 hB7))
          go_roundw
          case rel => exact ⟨F6, k, y, rfl, HV7.out, HY.out⟩
          case measure => simp [intOf]
    · go_wp2_with (first
        | (go_at_call 14; refine (now_any HV.out.a.h).mono ?_; rintro e w4 ⟨rfl, hB4⟩)
        | (at_builtin
           refine wpList_app1 rfl elem25 _ _ rfl u9 xs.length (ints xs) rfl (app_row HV.out hB4 _) w4.heap.size 1 #[.int .i64 x] rfl (blk_new w4 _) rfl (by simp [Value.oneCell']) (by simp only [maxLen]; omega) (by omega) ?_
           intro gg cap w5 hown5 hgrow5 hat5 hlt5
           have HV5 := Lib.hid ((HV.out.stay hB4).app hown5 hgrow5 hat5))
        | (go_at_call 15; refine (undo_up HV5.out.a.h h0).mono ?_; rintro e w6 ⟨rfl, hP6⟩))
      obtain ⟨F6, hV6⟩ := HV5.out.step (s' := (s.1, (parF s.1 x).toNat)) hP6
      go_roundw
      case rel => exact ⟨F6, _, _, hV6, by rw [HXS.out, upL_step HWF.out HV.out.a.h.1.now h0]; simp⟩
      case measure => rw [hV6.len, HV.out.len]; simp; omega
end Go.Proofs.Ythneinepdbkgeaa
