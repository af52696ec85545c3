/- refi.py prints this text (template refi.tpl). The reference's Between (52). -/
import Derived.Test.YthneinepdbkgeaaReft
import Derived.Test.YthneinepdbkgeaaEach
import Derived.Deep.CutBlock
import Derived.Deep.CutRange
namespace Go.Proofs.Ythneinepdbkgeaa
open Go.RowKit Go.HK
set_option linter.unusedVariables false
set_option linter.unusedSimpArgs false
set_option linter.unusedSectionVars false
set_option maxRecDepth 100000 in
set_option maxHeartbeats 4000000 in
theorem rbetw_no (w : World) (ge nl ce : Nat) (nw : Int) (ga : Option Addr) (gn gc : Nat) (a b : Int) (hn : ¬ ((0 ≤ a ∧ a < nl) ∧ 0 ≤ b ∧ b < nl)) : Calls Try.prog 52 #[.agg #[.slice (some ⟨ge, 0, none⟩) nl ce, .int .i64 nw, .slice ga gn gc], .int .i64 a, .int .i64 b] w (RetI w [] 6) := by
  have hh := fun (W : World) (n : Int) => rhas_any W (some ⟨ge, 0, none⟩) nl ce nw ga gn gc n
  unfold RetBo9 at hh
  obtain ⟨G, hG⟩ : ∃ G, G = w.heap.size := ⟨_, rfl⟩
  obtain ⟨w1, hw1⟩ : ∃ w1, w1 = w.alloc (.cells #[.slice (some ⟨ge, 0, none⟩) nl ce, .int .i64 nw, .slice ga gn gc] 63) := ⟨_, rfl⟩
  have hB1 : Below w.heap.size w w1 := by rw [hw1]; exact (Below.refl _ w).alloc (Nat.le_refl _) _
  have hX1 : w1.heap[G]? = some (.cells #[.slice (some ⟨ge, 0, none⟩) nl ce, .int .i64 nw, .slice ga gn gc] 63 (0, 0)) := by rw [hw1, hG]; exact HK.blk_new _ _
  have x0 := HK.blk_cell hX1 0
  have x1 := HK.blk_cell hX1 1
  have x2 := HK.blk_cell hX1 2
  have HX1 := Lib.hid hX1
  have HB1 := Lib.hid hB1
  have HW1 := Lib.hid hw1
  have HG := Lib.hid hG
  have HH := Lib.hid hh
  have HNO := Lib.hid hn
  clear hX1 hB1 hw1 hG hh hn
  by_cases ha : 0 ≤ a ∧ a < nl
  · have hb : ¬ (0 ≤ b ∧ b < nl) := fun h => HNO.out ⟨ha, h⟩
    have HA := Lib.hid ha
    have HB := Lib.hid hb
    clear ha hb
    go_enter Try.func52, Try.ntmps52
    go_upto_region 1 with (fail)
    rw [← HW1.out, ← HG.out]
    by_cases hab : a = b
    · exfalso
      exact HB.out (hab ▸ HA.out)
    go_wp2_with (first
      | (go_at_call_of 50 (Value.int IntKind.i64 a); refine (HH.out w1 a).mono ?_; rintro e wa ⟨rfl, hBa⟩; have hxa := blk_up9 hBa HX1.out; have y0 := HK.blk_cell hxa 0; have y1 := HK.blk_cell hxa 1; have y2 := HK.blk_cell hxa 2; rw [decide_eq_true HA.out]; have HBA := Lib.hid hBa; clear hBa hxa x0 x1 x2)
      | (go_at_call_of 50 (Value.int IntKind.i64 b); refine (HH.out wa b).mono ?_; rintro e wb ⟨rfl, hBb⟩; rw [decide_eq_false HB.out]; have HBB := Lib.hid hBb; clear hBb))
    go_ret2
    exact ⟨_, rfl, ownsRow_nil9 _ _, HB1.out.trans ((HBA.out.trans (HBB.out.mono HBA.out.size)).mono HB1.out.size)⟩
  · have HA := Lib.hid ha
    clear ha
    go_enter Try.func52, Try.ntmps52
    go_upto_region 1 with (fail)
    rw [← HW1.out, ← HG.out]
    go_wp2_with (go_at_call 50; refine (HH.out w1 a).mono ?_; rintro e wa ⟨rfl, hBa⟩; rw [decide_eq_false HA.out]; have HBA := Lib.hid hBa; clear hBa)
    go_ret2
    exact ⟨_, rfl, ownsRow_nil9 _ _, HB1.out.trans (HBA.out.mono HB1.out.size)⟩
set_option maxRecDepth 100000 in
set_option maxHeartbeats 16000000 in
theorem rbetw_walk (w : World) (ge nl ce : Nat) (nw : Int) (ga : Option Addr) (gn gc : Nat) (na nb : Nat) (ha : na < nl) (hb : nb < nl) (xs ys L : List Nat) (C n1 n2 : Nat) (HC : Hid (C = cpl xs ys))
    (HN1 : Hid (n1 = xs.length)) (HN2 : Hid (n2 = ys.length)) (HL : Hid (L = (xs.drop (C - 1)).reverse ++ ys.drop C)) (hx1 : n1 ≤ 1000) (hy1 : n2 ≤ 1000) (hx0 : 0 < n1) (hy0 : 0 < n2) (hc0 : 0 < C) (hcl : C ≤ n1 ∧ C ≤ n2)
    (HWA0 : Hid (∀ W : World, Below w.heap.size w W → Calls Try.prog 55 #[.agg #[.slice (some ⟨ge, 0, none⟩) nl ce, .int .i64 nw, .slice ga gn gc], .int .i64 (na : Int)] W fun e w' => ∃ v, e = .returned v ∧ w'.ownsRow W.heap.size 3 1 v n1 (ints xs) ∧ Below W.heap.size W w'))
    (HWB0 : Hid (∀ W : World, Below w.heap.size w W → Calls Try.prog 55 #[.agg #[.slice (some ⟨ge, 0, none⟩) nl ce, .int .i64 nw, .slice ga gn gc], .int .i64 (nb : Int)] W fun e w' => ∃ v, e = .returned v ∧ w'.ownsRow W.heap.size 3 1 v n2 (ints ys) ∧ Below W.heap.size W w')) :
    Calls Try.prog 52 #[.agg #[.slice (some ⟨ge, 0, none⟩) nl ce, .int .i64 nw, .slice ga gn gc], .int .i64 (na : Int), .int .i64 (nb : Int)] w (RetI w L 0) := by
  have hh := fun (W : World) (n : Int) => rhas_any W (some ⟨ge, 0, none⟩) nl ce nw ga gn gc n
  unfold RetBo9 at hh
  obtain ⟨G, hG⟩ : ∃ G, G = w.heap.size := ⟨_, rfl⟩
  obtain ⟨w1, hw1⟩ : ∃ w1, w1 = w.alloc (.cells #[.slice (some ⟨ge, 0, none⟩) nl ce, .int .i64 nw, .slice ga gn gc] 63) := ⟨_, rfl⟩
  have hB1 : Below w.heap.size w w1 := by rw [hw1]; exact (Below.refl _ w).alloc (Nat.le_refl _) _
  have hX1 : w1.heap[G]? = some (.cells #[.slice (some ⟨ge, 0, none⟩) nl ce, .int .i64 nw, .slice ga gn gc] 63 (0, 0)) := by rw [hw1, hG]; exact HK.blk_new _ _
  have x0 := HK.blk_cell hX1 0
  have x1 := HK.blk_cell hX1 1
  have x2 := HK.blk_cell hX1 2
  have HX1 := Lib.hid hX1
  have HB1 := Lib.hid hB1
  have HW1 := Lib.hid hw1
  have HG := Lib.hid hG
  have HH := Lib.hid hh
  have HA := Lib.hid (show (0 : Int) ≤ (na : Int) ∧ (na : Int) < (nl : Int) by omega)
  have HB := Lib.hid (show (0 : Int) ≤ (nb : Int) ∧ (nb : Int) < (nl : Int) by omega)
  clear hX1 hB1 hw1 hG hh ha hb
  go_enter Try.func52, Try.ntmps52
  go_upto_region 1 with (fail)
  rw [← HW1.out, ← HG.out]
  go_upto_region 3 with (first
      | (go_at_call_of 50 (Value.int IntKind.i64 (na : Int)); refine (HH.out w1 (na : Int)).mono ?_; rintro e wa ⟨rfl, hBa⟩; have hxa := blk_up9 hBa HX1.out; have y0 := HK.blk_cell hxa 0; have y1 := HK.blk_cell hxa 1; have y2 := HK.blk_cell hxa 2; rw [decide_eq_true HA.out]; have HBA := Lib.hid hBa; clear hBa hxa x0 x1 x2)
      | (go_at_call_of 50 (Value.int IntKind.i64 (nb : Int)); refine (HH.out wa (nb : Int)).mono ?_; rintro e wb ⟨rfl, hBb⟩; rw [decide_eq_true HB.out]; have HBB := Lib.hid hBb; clear hBb))
  have hBwb : Below w1.heap.size w1 wb := HBA.out.trans (HBB.out.mono HBA.out.size)
  have hBw : Below w.heap.size w wb := HB1.out.trans (hBwb.mono HB1.out.size)
  have HXB := Lib.hid (blk_up9 hBwb HX1.out)
  have HWA := Lib.hid (fun (W : World) (hB : Below wb.heap.size wb W) => HWA0.out W (hBw.trans (hB.mono hBw.size)))
  have HWB := Lib.hid (fun (W : World) (hB : Below wb.heap.size wb W) => HWB0.out W (hBw.trans (hB.mono hBw.size)))
  have HBW := Lib.hid hBw
  clear hBwb hBw y0 y1 y2 HWA0 HWB0
  go_cut [8, 9] from 23 to 28 (fun p q wx => ∃ g1 c1 g2 c2, p = .slice (some ⟨g1, 0, none⟩) n1 c1 ∧ q = .slice (some ⟨g2, 0, none⟩) n2 c2 ∧ wx.ownsRow wb.heap.size 3 1 (.slice (some ⟨g1, 0, none⟩) n1 c1) n1 (ints xs) ∧ wx.ownsRow wb.heap.size 3 1 (.slice (some ⟨g2, 0, none⟩) n2 c2) n2 (ints ys) ∧ Below wb.heap.size wb wx)
  case first =>
      refine Go.RE.wp_region_each [23, 24, 25, 26, 27, 28, 8, 9] (fun L x W => (Below wb.heap.size wb W) ∧ (L 0 = true → x 23 = .agg #[.slice (some ⟨ge, 0, none⟩) nl ce, .int .i64 nw, .slice ga gn gc]) ∧ (L 1 = true → x 24 = .int .i64 (na : Int)) ∧ (L 2 = true → ∃ g c, x 25 = .slice (some ⟨g, 0, none⟩) n1 c ∧ W.ownsRow wb.heap.size 3 1 (.slice (some ⟨g, 0, none⟩) n1 c) n1 (ints xs)) ∧ (L 3 = true → x 26 = .agg #[.slice (some ⟨ge, 0, none⟩) nl ce, .int .i64 nw, .slice ga gn gc]) ∧ (L 4 = true → x 27 = .int .i64 (nb : Int)) ∧ (L 5 = true → ∃ g c, x 28 = .slice (some ⟨g, 0, none⟩) n2 c ∧ W.ownsRow wb.heap.size 3 1 (.slice (some ⟨g, 0, none⟩) n2 c) n2 (ints ys)) ∧ (L 6 = true → L 2 = true ∧ x 8 = x 25) ∧ (L 7 = true → L 5 = true ∧ x 9 = x 28)) (by kernel_rfl) (by kernel_rfl) (by kernel_rfl) ?_ ((Go.RE.Each.cons ?_ (Go.RE.Each.cons ?_ (Go.RE.Each.cons ?_ (Go.RE.Each.cons ?_ (Go.RE.Each.cons ?_ (Go.RE.Each.cons ?_ (Go.RE.Each.cons ?_ (Go.RE.Each.cons ?_ Go.RE.Each.nil))))))))) ?_
      · exact fun x => ⟨(Below.refl _ wb).trans ⟨rfl, rfl, rfl, Nat.le_refl _, fun _ _ => rfl⟩, fun h => (by cases h), fun h => (by cases h), fun h => (by cases h), fun h => (by cases h), fun h => (by cases h), fun h => (by cases h), fun h => (by cases h), fun h => (by cases h)⟩
      · intro L x a w K hL hd hf hx hΦ hK
        obtain ⟨hI, f0, f1, f2, f3, f4, f5, f6, f7⟩ := hΦ
        have e3 : a.tmps[3]? = some (.pointer (some ⟨G, 0, none⟩)) := hf 3 (of_decide_eq_true (by kernel_rfl))
        clear hf hx hd
        have hbx := blk_up9 hI HXB.out
        have c0 := HK.blk_cell hbx 0
        have c1 := HK.blk_cell hbx 1
        have c2 := HK.blk_cell hbx 2
        simp only [List.getElem?_toArray, List.getElem?_cons_succ, List.getElem?_cons_zero] at c0 c1 c2
        go_simp
        refine hK _ _ ?_
        exact ⟨hI, fun _ => rfl, fun h => f1 h, fun h => f2 h, fun h => f3 h, fun h => f4 h, fun h => f5 h, fun h => f6 h, fun h => f7 h⟩
      · intro L x a w K hL hd hf hx hΦ hK
        obtain ⟨hI, f0, f1, f2, f3, f4, f5, f6, f7⟩ := hΦ
        have e1 : a.tmps[1]? = some (.int .i64 (na : Int)) := hf 1 (of_decide_eq_true (by kernel_rfl))
        clear hf hx hd
        go_simp
        refine hK _ _ ?_
        exact ⟨hI, fun h => f0 h, fun _ => rfl, fun h => f2 h, fun h => f3 h, fun h => f4 h, fun h => f5 h, fun h => f6 h, fun h => f7 h⟩
      · intro L x a w K hL hd hf hx hΦ hK
        obtain ⟨hI, f0, f1, f2, f3, f4, f5, f6, f7⟩ := hΦ
        have d0 := f0 (hd 0 (by kernel_rfl))
        have e23 : a.tmps[23]? = some (x 23) := hx 0 _ 23 rfl rfl (hd 0 (by kernel_rfl))
        have d1 := f1 (hd 1 (by kernel_rfl))
        have e24 : a.tmps[24]? = some (x 24) := hx 1 _ 24 rfl rfl (hd 1 (by kernel_rfl))
        clear hf hx hd
        rw [d0] at e23
        rw [d1] at e24
        go_simp
        go_at_call 55
        refine (HWA.out w hI).mono ?_
        rintro e w' ⟨v, rfl, hv, hB8⟩
        obtain ⟨g8, c8, rfl, _, _⟩ := own_form9 hv hx0
        simp only
        refine hK _ _ ?_
        exact ⟨hI.trans (hB8.mono hI.size), fun h => f0 h, fun h => f1 h, fun _ => ⟨g8, c8, rfl, own_mono9 hv hI.size⟩, fun h => f3 h, fun h => f4 h, fun h => (f5 h).imp fun _ h => h.imp fun _ h => ⟨h.1, own_below9 h.2 hB8⟩, fun h => absurd (f6 h).1 (by rw [hL]; decide), fun h => f7 h⟩
      · intro L x a w K hL hd hf hx hΦ hK
        obtain ⟨hI, f0, f1, f2, f3, f4, f5, f6, f7⟩ := hΦ
        have e3 : a.tmps[3]? = some (.pointer (some ⟨G, 0, none⟩)) := hf 3 (of_decide_eq_true (by kernel_rfl))
        clear hf hx hd
        have hbx := blk_up9 hI HXB.out
        have c0 := HK.blk_cell hbx 0
        have c1 := HK.blk_cell hbx 1
        have c2 := HK.blk_cell hbx 2
        simp only [List.getElem?_toArray, List.getElem?_cons_succ, List.getElem?_cons_zero] at c0 c1 c2
        go_simp
        refine hK _ _ ?_
        exact ⟨hI, fun h => f0 h, fun h => f1 h, fun h => f2 h, fun _ => rfl, fun h => f4 h, fun h => f5 h, fun h => f6 h, fun h => f7 h⟩
      · intro L x a w K hL hd hf hx hΦ hK
        obtain ⟨hI, f0, f1, f2, f3, f4, f5, f6, f7⟩ := hΦ
        have e2 : a.tmps[2]? = some (.int .i64 (nb : Int)) := hf 2 (of_decide_eq_true (by kernel_rfl))
        clear hf hx hd
        go_simp
        refine hK _ _ ?_
        exact ⟨hI, fun h => f0 h, fun h => f1 h, fun h => f2 h, fun h => f3 h, fun _ => rfl, fun h => f5 h, fun h => f6 h, fun h => f7 h⟩
      · intro L x a w K hL hd hf hx hΦ hK
        obtain ⟨hI, f0, f1, f2, f3, f4, f5, f6, f7⟩ := hΦ
        have d3 := f3 (hd 3 (by kernel_rfl))
        have e26 : a.tmps[26]? = some (x 26) := hx 3 _ 26 rfl rfl (hd 3 (by kernel_rfl))
        have d4 := f4 (hd 4 (by kernel_rfl))
        have e27 : a.tmps[27]? = some (x 27) := hx 4 _ 27 rfl rfl (hd 4 (by kernel_rfl))
        clear hf hx hd
        rw [d3] at e26
        rw [d4] at e27
        go_simp
        go_at_call 55
        refine (HWB.out w hI).mono ?_
        rintro e w' ⟨v, rfl, hv, hB8⟩
        obtain ⟨g8, c8, rfl, _, _⟩ := own_form9 hv hy0
        simp only
        refine hK _ _ ?_
        exact ⟨hI.trans (hB8.mono hI.size), fun h => f0 h, fun h => f1 h, fun h => (f2 h).imp fun _ h => h.imp fun _ h => ⟨h.1, own_below9 h.2 hB8⟩, fun h => f3 h, fun h => f4 h, fun _ => ⟨g8, c8, rfl, own_mono9 hv hI.size⟩, fun h => f6 h, fun h => absurd (f7 h).1 (by rw [hL]; decide)⟩
      · intro L x a w K hL hd hf hx hΦ hK
        obtain ⟨hI, f0, f1, f2, f3, f4, f5, f6, f7⟩ := hΦ
        have d2 := f2 (hd 2 (by kernel_rfl))
        have e25 : a.tmps[25]? = some (x 25) := hx 2 _ 25 rfl rfl (hd 2 (by kernel_rfl))
        have l2 := hd 2 (by kernel_rfl)
        clear hf hx hd
        obtain ⟨g8, c8, h8, h9⟩ := d2
        rw [h8] at e25
        go_simp
        refine hK _ _ ?_
        exact ⟨hI, fun h => f0 h, fun h => f1 h, fun h => f2 h, fun h => f3 h, fun h => f4 h, fun h => f5 h, fun _ => ⟨l2, h8.symm⟩, fun h => f7 h⟩
      · intro L x a w K hL hd hf hx hΦ hK
        obtain ⟨hI, f0, f1, f2, f3, f4, f5, f6, f7⟩ := hΦ
        have d5 := f5 (hd 5 (by kernel_rfl))
        have e28 : a.tmps[28]? = some (x 28) := hx 5 _ 28 rfl rfl (hd 5 (by kernel_rfl))
        have l5 := hd 5 (by kernel_rfl)
        clear hf hx hd
        obtain ⟨g8, c8, h8, h9⟩ := d5
        rw [h8] at e28
        go_simp
        refine hK _ _ ?_
        exact ⟨hI, fun h => f0 h, fun h => f1 h, fun h => f2 h, fun h => f3 h, fun h => f4 h, fun h => f5 h, fun h => f6 h, fun _ => ⟨l5, h8.symm⟩⟩
      · rintro x W ⟨hI, f0, f1, f2, f3, f4, f5, f6, f7⟩
        obtain ⟨g1, c1, h25, o1⟩ := f2 (by kernel_rfl)
        obtain ⟨g2, c2, h28, o2⟩ := f5 (by kernel_rfl)
        have h8 := (f6 (by kernel_rfl)).2
        have h9 := (f7 (by kernel_rfl)).2
        simp only [Exit.then]
        go_step
        go_meet
        case rel => exact ⟨g1, c1, g2, c2, h8.trans h25, h9.trans h28, o1, o2, hI⟩
  case rest =>
    obtain ⟨g1, c1, g2, c2, rfl, rfl, o1, o2, hBc⟩ := hcut
    obtain ⟨wd, hwd⟩ : ∃ wd, wd = wc := ⟨_, rfl⟩
    rw [← hwd] at o1 o2 hBc ⊢
    have hc1 := owns_cap o1
    have hc2 := owns_cap o2
    have hc1m := owns_capMax o1
    have hc2m := owns_capMax o2
    have O1 := Lib.hid o1
    have O2 := Lib.hid o2
    have HBc := Lib.hid hBc
    clear o1 o2 hBc hwd
    go_step
    go_upto_block 0 with (fail)
    go_cut [10] from 29 to 51 (fun v wx => v = .int .i64 (C : Int) ∧ Below wd.heap.size wd wx)
    case first =>
      go_wp2_with (fail)
      go_loopw [10] (fun i wr => ∃ k : Nat, k ≤ C ∧ i = .int .i64 k ∧ Below wd.heap.size wd wr) (fun i _ => n1 - (intOf i).toNat)
      case atStart => exact ⟨0, Nat.zero_le _, rfl, Below.refl _ _⟩
      case round =>
        obtain ⟨k, hkC, rfl, hBr⟩ := hrel
        have b0 : (0 : Int) ≤ (k : Int) := by omega
        have hr1 := own_below9 O1.out hBr
        have hr2 := own_below9 O2.out hBr
        have HBr := Lib.hid hBr
        clear hBr
        by_cases h1 : (k : Int) < (n1 : Int)
        · by_cases h2 : (k : Int) < (n2 : Int)
          · obtain ⟨x, hx⟩ : ∃ x, xs[k]? = some x := ⟨_, List.getElem?_eq_getElem (by have := HN1.out; omega)⟩
            obtain ⟨y, hy⟩ : ∃ y, ys[k]? = some y := ⟨_, List.getElem?_eq_getElem (by have := HN2.out; omega)⟩
            have cx : wr.cell? ⟨g1, k, none⟩ = some (.int .i64 x) := by rw [hr1.cellAt k (by omega)]; simp [ints, hx]
            have cy : wr.cell? ⟨g2, k, none⟩ = some (.int .i64 y) := by rw [hr2.cellAt k (by omega)]; simp [ints, hy]
            clear hr1 hr2
            by_cases hxy : (x : Int) = (y : Int)
            · have hkC' : k < C := by
                rcases Nat.lt_or_ge k C with h | h
                · exact h
                · have e : k = C := by omega
                  rw [e, HC.out] at hx hy
                  exact absurd (by omega) (cpl_at xs ys x y hx hy)
              go_wp2_with (fail)
              go_quiet (fail)
              go_wp2_with (fail)
              go_roundw
              case rel => exact ⟨k + 1, by omega, by go_num, bl_dr9 HBr.out _⟩
              case measure => simp [intOf]; omega
            · have HK : Hid (k = C) := by
                refine Lib.hid ?_
                rcases Nat.lt_or_ge k C with h | h
                · have := cpl_lt xs ys k x (by rw [← HC.out]; exact h) hx
                  rw [hy] at this; simp at this; omega
                · omega
              go_wp2_with (fail)
              go_quiet (fail)
              go_wp2_with (fail)
              go_meet
              case rel => exact ⟨by rw [HK.out], bl_dr9 HBr.out _⟩
          · have hd : decide (k < n2) = false := decide_eq_false (by omega)
            have HK := Lib.hid (show k = C by omega)
            clear hr1 hr2
            go_wp2_with (fail)
            go_quiet (fail)
            go_wp2_with (fail)
            go_meet
            case rel => exact ⟨by rw [HK.out], bl_dr9 HBr.out _⟩
        · have hd : decide (k < n1) = false := decide_eq_false (by omega)
          have HK := Lib.hid (show k = C by omega)
          clear hr1 hr2
          go_wp2_with (fail)
          go_quiet (fail)
          go_wp2_with (fail)
          go_meet
          case rel => exact ⟨by rw [HK.out], bl_dr9 HBr.out _⟩
    case rest =>
      obtain ⟨rfl, hBz⟩ := hcut
      obtain ⟨wz, hwz⟩ : ∃ wz, wz = wc := ⟨_, rfl⟩
      rw [← hwz] at hBz ⊢
      have HBz := Lib.hid hBz
      have hr1 := own_below9 O1.out hBz
      have hr2 := own_below9 O2.out hBz
      have HR1 := Lib.hid hr1
      have HR2 := Lib.hid hr2
      clear hBz hwz hr1 hr2
      go_step
      go_wp2_with (fail)
      go_loopw [11, 12] (fun v i wr => ∃ (vo : Value) (q : Nat), vo = v ∧ C ≤ q ∧ q ≤ n1 ∧ i = .int .i64 ((q : Int) - 1) ∧ wr.ownsRow wz.heap.size 3 1 v (n1 - q) (ints (xs.drop q).reverse) ∧ Below wz.heap.size wz wr) (fun _ i _ => (intOf i + 1).toNat)
      case atStart => exact ⟨_, n1, rfl, hcl.1, Nat.le_refl _, by go_num, by rw [Nat.sub_self, List.drop_of_length_le (by have := HN1.out; omega)]; exact World.ownsRow_nil _ _ _ _, Below.refl _ _⟩
      case round =>
        obtain ⟨vo, q, rfl, hCq, hqn, rfl, ho, hB⟩ := hrel
        by_cases hq : C < q
        · obtain ⟨p, rfl⟩ : ∃ p, q = p + 1 := ⟨q - 1, by omega⟩
          have e1 : ((p + 1 : Nat) : Int) - 1 = (p : Int) := by omega
          rw [e1]
          obtain ⟨x, hx⟩ : ∃ x, xs[p]? = some x := ⟨_, List.getElem?_eq_getElem (by have := HN1.out; omega)⟩
          have cx : wr.cell? ⟨g1, p, none⟩ = some (.int .i64 x) := by rw [(own_below9 HR1.out hB).cellAt p (by omega)]; simp [ints, hx]
          have b0 : (0 : Int) ≤ (p : Int) := by omega
          have b1 : (C : Int) ≤ (p : Int) := by omega
          have b2 : (p : Int) < (n1 : Int) := by omega
          obtain ⟨m, hm⟩ : ∃ m, m = n1 - (p + 1) := ⟨_, rfl⟩
          rw [← hm] at ho
          have hm2 : m ≤ 1000 := by omega
          have HM := Lib.hid hm
          have HX := Lib.hid hx
          have HO := Lib.hid ho
          have HB2 := Lib.hid hB
          clear hm hx ho hB e1
          go_wp2_with (
            at_builtin
            refine wpList_app1 rfl elem25 _ _ rfl vo m (ints (xs.drop (p + 1)).reverse) rfl (own_mono0 (HO.out.alloc _)) wr.heap.size 1 #[.int .i64 (x : Int)] rfl (HK.blk_new wr _) rfl (by simp [Value.oneCell']) (by simp only [maxLen]; omega) (by omega) ?_
            intro g c w' hown2 hgrow hat hlt2)
          go_roundw
          case rel =>
            have hz := HB2.out.size
            have hb2 : Below wz.heap.size wz w' := (HB2.out.alloc hz _).grown hgrow (by simp; omega) (fun k hk => own_ge HO.out k hk)
            have hg1 : wz.heap.size ≤ g := by
              rcases hat with h | h
              · exact own_ge HO.out _ h
              · simp at h; omega
            refine ⟨_, p, rfl, by omega, by omega, by go_num, ?_, hb2⟩
            have e2 : xs.drop p = x :: xs.drop (p + 1) := by
              have hl := (List.getElem?_eq_some_iff.1 HX.out).1
              rw [List.drop_eq_getElem_cons hl]
              congr 1
              exact Option.some.inj ((List.getElem?_eq_getElem hl).symm.trans HX.out)
            have e3 : n1 - p = m + 1 := by have := HM.out; omega
            rw [e2, e3, List.reverse_cons, ints_append]
            exact own_base9 hown2 hg1
          case measure => simp [intOf]
        · obtain rfl : C = q := by omega
          have b1 : ¬ ((C : Int) ≤ (C : Int) - 1) := by omega
          have k0 : (1 : Int) ≤ (C : Int) := by omega
          have k1 : (0 : Int) ≤ (C : Int) - 1 := by omega
          have k2 : (C : Int) - 1 < (n1 : Int) := by have := hcl.1; omega
          have k3 : (C : Int) ≤ 1000 := by have := hcl.1; omega
          obtain ⟨z, hz⟩ : ∃ z, xs[C - 1]? = some z := ⟨_, List.getElem?_eq_getElem (by have := HN1.out; omega)⟩
          have hcz : ∀ W, Below wz.heap.size wz W → W.cell? ⟨g1, C - 1, none⟩ = some (.int .i64 z) := fun W hW => by rw [(own_below9 HR1.out hW).cellAt (C - 1) (by omega)]; simp [ints, hz]
          obtain ⟨bo, hbo⟩ : ∃ bo, bo = if c2 = C then 0 else C := ⟨_, rfl⟩
          have hdr : ∀ W, Below wz.heap.size wz W → ∀ j u, (ints (ys.drop C))[j]? = some u → W.cell? ((⟨g2, bo, none⟩ : Addr).add j) = some u := fun W hW => drop_cells HN2.out (own_below9 HR2.out hW) bo (by rw [hbo]; split <;> omega)
          obtain ⟨os, hos⟩ : ∃ os, os = (xs.drop C).reverse := ⟨_, rfl⟩
          obtain ⟨m, hm⟩ : ∃ m, m = n1 - C := ⟨_, rfl⟩
          rw [← hos, ← hm] at ho
          have hLe : L = os ++ [z] ++ ys.drop C := by
            have hl := (List.getElem?_eq_some_iff.1 hz).1
            have e2 : xs.drop (C - 1) = z :: xs.drop C := by
              rw [List.drop_eq_getElem_cons hl, show C - 1 + 1 = C by omega]
              congr 1
              exact Option.some.inj ((List.getElem?_eq_getElem hl).symm.trans hz)
            rw [HL.out, e2, List.reverse_cons, hos]
          have hm2 : m ≤ 1000 := by omega
          have HLE := Lib.hid hLe
          have HCZ := Lib.hid hcz
          have HDR := Lib.hid hdr
          have HBO := Lib.hid hbo
          have HM := Lib.hid hm
          have HOS := Lib.hid hos
          have HOZ := Lib.hid ho
          have HBZ := Lib.hid hB
          clear hz hcz hbo hdr hos hm hLe ho hB
          go_upto_region 12 with (fail)
          go_cut [6, 7] from 67 to 78 (fun v e wx => e = .int .i64 0 ∧ wx.ownsRow wz.heap.size 3 1 v (m + 1 + (n2 - C)) (ints (os ++ [z]) ++ ints (ys.drop C)) ∧ Below wz.heap.size wz wx)
          case first =>
            have hoz := HOZ.out
            have hBz := HBZ.out
            have hcz := HCZ.out
            have hdr := HDR.out
            refine Go.RE.wp_region_each [67, 68, 69, 70, 71, 72, 73, 74, 75, 76, 77, 78, 6, 7] (fun L x W => (Below wz.heap.size wz W ∧ (L 7 = true ∨ W.ownsRow wz.heap.size 3 1 vo m (ints os))) ∧ (L 0 = true → x 67 = vo) ∧ (L 1 = true → x 68 = .slice (some ⟨g1, 0, none⟩) n1 c1) ∧ (L 2 = true → x 69 = .int .i64 (C : Int)) ∧ (L 3 = true → x 70 = .int .i64 ((C : Int) - 1)) ∧ (L 4 = true → x 71 = .pointer (some ⟨g1, C - 1, none⟩)) ∧ (L 5 = true → x 72 = .int .i64 (z : Int)) ∧ (L 6 = true → ∃ B, x 73 = .slice (some ⟨B, 0, none⟩) 1 1 ∧ (L 7 = true ∨ W.heap[B]? = some (.cells #[.int .i64 (z : Int)] 3 (0, 0)))) ∧ (L 7 = true → L 6 = true ∧ ∃ v, x 74 = v ∧ (L 11 = true ∨ W.ownsRow wz.heap.size 3 1 v (m + 1) (ints (os ++ [z])))) ∧ (L 8 = true → x 75 = .slice (some ⟨g2, 0, none⟩) n2 c2) ∧ (L 9 = true → x 76 = .int .i64 (C : Int)) ∧ (L 10 = true → x 77 = .slice (some ⟨g2, bo, none⟩) (n2 - C) (c2 - C)) ∧ (L 11 = true → L 7 = true ∧ W.ownsRow wz.heap.size 3 1 (x 78) (m + 1 + (n2 - C)) (ints (os ++ [z]) ++ ints (ys.drop C))) ∧ (L 12 = true → L 11 = true ∧ x 6 = x 78) ∧ (L 13 = true → x 7 = .int .i64 0)) (by kernel_rfl) (by kernel_rfl) (by kernel_rfl) ?_ ((Go.RE.Each.cons ?_ (Go.RE.Each.cons ?_ (Go.RE.Each.cons ?_ (Go.RE.Each.cons ?_ (Go.RE.Each.cons ?_ (Go.RE.Each.cons ?_ (Go.RE.Each.cons ?_ (Go.RE.Each.cons ?_ (Go.RE.Each.cons ?_ (Go.RE.Each.cons ?_ (Go.RE.Each.cons ?_ (Go.RE.Each.cons ?_ (Go.RE.Each.cons ?_ (Go.RE.Each.cons ?_ Go.RE.Each.nil))))))))))))))) ?_
            · exact fun x => ⟨⟨(hBz.trans ⟨rfl, rfl, rfl, Nat.le_refl _, fun _ _ => rfl⟩), .inr (own_below9 hoz ⟨rfl, rfl, rfl, Nat.le_refl _, fun _ _ => rfl⟩)⟩, fun h => (by cases h), fun h => (by cases h), fun h => (by cases h), fun h => (by cases h), fun h => (by cases h), fun h => (by cases h), fun h => (by cases h), fun h => (by cases h), fun h => (by cases h), fun h => (by cases h), fun h => (by cases h), fun h => (by cases h), fun h => (by cases h), fun h => (by cases h)⟩
            · intro L x a w K hL hd hf hx hΦ hK
              obtain ⟨hI, f0, f1, f2, f3, f4, f5, f6, f7, f8, f9, f10, f11, f12, f13⟩ := hΦ
              have e11 : a.tmps[11]? = some (vo) := hf 11 (of_decide_eq_true (by kernel_rfl))
              clear hf hx hd
              go_simp
              refine hK _ _ ?_
              exact ⟨hI, fun _ => rfl, fun h => f1 h, fun h => f2 h, fun h => f3 h, fun h => f4 h, fun h => f5 h, fun h => f6 h, fun h => f7 h, fun h => f8 h, fun h => f9 h, fun h => f10 h, fun h => f11 h, fun h => f12 h, fun h => f13 h⟩
            · intro L x a w K hL hd hf hx hΦ hK
              obtain ⟨hI, f0, f1, f2, f3, f4, f5, f6, f7, f8, f9, f10, f11, f12, f13⟩ := hΦ
              have e8 : a.tmps[8]? = some (.slice (some ⟨g1, 0, none⟩) n1 c1) := hf 8 (of_decide_eq_true (by kernel_rfl))
              clear hf hx hd
              go_simp
              refine hK _ _ ?_
              exact ⟨hI, fun h => f0 h, fun _ => rfl, fun h => f2 h, fun h => f3 h, fun h => f4 h, fun h => f5 h, fun h => f6 h, fun h => f7 h, fun h => f8 h, fun h => f9 h, fun h => f10 h, fun h => f11 h, fun h => f12 h, fun h => f13 h⟩
            · intro L x a w K hL hd hf hx hΦ hK
              obtain ⟨hI, f0, f1, f2, f3, f4, f5, f6, f7, f8, f9, f10, f11, f12, f13⟩ := hΦ
              have e10 : a.tmps[10]? = some (.int .i64 (C : Int)) := hf 10 (of_decide_eq_true (by kernel_rfl))
              clear hf hx hd
              go_simp
              refine hK _ _ ?_
              exact ⟨hI, fun h => f0 h, fun h => f1 h, fun _ => rfl, fun h => f3 h, fun h => f4 h, fun h => f5 h, fun h => f6 h, fun h => f7 h, fun h => f8 h, fun h => f9 h, fun h => f10 h, fun h => f11 h, fun h => f12 h, fun h => f13 h⟩
            · intro L x a w K hL hd hf hx hΦ hK
              obtain ⟨hI, f0, f1, f2, f3, f4, f5, f6, f7, f8, f9, f10, f11, f12, f13⟩ := hΦ
              have d2 := f2 (hd 2 (by kernel_rfl))
              have e69 : a.tmps[69]? = some (x 69) := hx 2 _ 69 rfl rfl (hd 2 (by kernel_rfl))
              clear hf hx hd
              rw [d2] at e69
              go_simp
              rw [show IntKind.i64.wrap ((C : Int) - 1) = (C : Int) - 1 from IntWalk.i64_in _ (by omega)]
              refine hK _ _ ?_
              exact ⟨hI, fun h => f0 h, fun h => f1 h, fun h => f2 h, fun _ => rfl, fun h => f4 h, fun h => f5 h, fun h => f6 h, fun h => f7 h, fun h => f8 h, fun h => f9 h, fun h => f10 h, fun h => f11 h, fun h => f12 h, fun h => f13 h⟩
            · intro L x a w K hL hd hf hx hΦ hK
              obtain ⟨hI, f0, f1, f2, f3, f4, f5, f6, f7, f8, f9, f10, f11, f12, f13⟩ := hΦ
              have d1 := f1 (hd 1 (by kernel_rfl))
              have e68 : a.tmps[68]? = some (x 68) := hx 1 _ 68 rfl rfl (hd 1 (by kernel_rfl))
              have d3 := f3 (hd 3 (by kernel_rfl))
              have e70 : a.tmps[70]? = some (x 70) := hx 3 _ 70 rfl rfl (hd 3 (by kernel_rfl))
              clear hf hx hd
              rw [d1] at e68
              rw [d3] at e70
              go_simp
              refine hK _ _ ?_
              exact ⟨hI, fun h => f0 h, fun h => f1 h, fun h => f2 h, fun h => f3 h, fun _ => rfl, fun h => f5 h, fun h => f6 h, fun h => f7 h, fun h => f8 h, fun h => f9 h, fun h => f10 h, fun h => f11 h, fun h => f12 h, fun h => f13 h⟩
            · intro L x a w K hL hd hf hx hΦ hK
              obtain ⟨hI, f0, f1, f2, f3, f4, f5, f6, f7, f8, f9, f10, f11, f12, f13⟩ := hΦ
              have d4 := f4 (hd 4 (by kernel_rfl))
              have e71 : a.tmps[71]? = some (x 71) := hx 4 _ 71 rfl rfl (hd 4 (by kernel_rfl))
              clear hf hx hd
              rw [d4] at e71
              have c0 := hcz w hI.1
              go_simp
              refine hK _ _ ?_
              exact ⟨hI, fun h => f0 h, fun h => f1 h, fun h => f2 h, fun h => f3 h, fun h => f4 h, fun _ => rfl, fun h => f6 h, fun h => f7 h, fun h => f8 h, fun h => f9 h, fun h => f10 h, fun h => f11 h, fun h => f12 h, fun h => f13 h⟩
            · intro L x a w K hL hd hf hx hΦ hK
              obtain ⟨hI, f0, f1, f2, f3, f4, f5, f6, f7, f8, f9, f10, f11, f12, f13⟩ := hΦ
              have d5 := f5 (hd 5 (by kernel_rfl))
              have e72 : a.tmps[72]? = some (x 72) := hx 5 _ 72 rfl rfl (hd 5 (by kernel_rfl))
              clear hf hx hd
              rw [d5] at e72
              go_simp
              refine hK _ _ ?_
              exact ⟨⟨hI.1.alloc hI.1.size _, hI.2.imp id fun h => own_below9 h ((Below.refl _ w).alloc (Nat.le_refl _) _)⟩, fun h => f0 h, fun h => f1 h, fun h => f2 h, fun h => f3 h, fun h => f4 h, fun h => f5 h, fun _ => ⟨_, rfl, .inr (HK.blk_new _ _)⟩, fun h => absurd (f7 h).1 (by rw [hL]; decide), fun h => f8 h, fun h => f9 h, fun h => f10 h, fun h => ⟨(f11 h).1, own_below9 (f11 h).2 ((Below.refl _ w).alloc (Nat.le_refl _) _)⟩, fun h => f12 h, fun h => f13 h⟩
            · intro L x a w K hL hd hf hx hΦ hK
              obtain ⟨hI, f0, f1, f2, f3, f4, f5, f6, f7, f8, f9, f10, f11, f12, f13⟩ := hΦ
              have d0 := f0 (hd 0 (by kernel_rfl))
              have e67 : a.tmps[67]? = some (x 67) := hx 0 _ 67 rfl rfl (hd 0 (by kernel_rfl))
              have d6 := f6 (hd 6 (by kernel_rfl))
              have e73 : a.tmps[73]? = some (x 73) := hx 6 _ 73 rfl rfl (hd 6 (by kernel_rfl))
              have l6 := hd 6 (by kernel_rfl)
              clear hf hx hd
              obtain ⟨B, hb, hbc⟩ := d6
              rw [d0] at e67
              rw [hb] at e73
              have hown := hI.2.resolve_left (by rw [hL]; decide)
              have hbc := hbc.resolve_left (by rw [hL]; decide)
              refine of_wanted9 rfl (HK.step_app1 rfl elem25 _ _ rfl vo m (ints os) (ev9 e67) (own_mono0 hown) B 1 #[.int .i64 (z : Int)] (ev9 e73) hbc rfl (by simp [Value.oneCell']) (by simp only [maxLen]; omega) (by omega) ?_)
              intro g c w' hown2 hgrow hat hlt
              have hb2 : Below wz.heap.size wz w' := hI.1.grown hgrow hI.1.size (fun k hk => own_ge hown k hk)
              have hg1 : wz.heap.size ≤ g := by rcases hat with h | h; exact own_ge hown _ h; have := hI.1.size; omega
              have hown3 : w'.ownsRow wz.heap.size 3 1 (.slice (some ⟨g, 0, none⟩) (m + 1) c) (m + 1) (ints (os ++ [z])) := by rw [ints_append]; exact own_base9 hown2 hg1
              refine hK _ _ ?_
              exact ⟨⟨hb2, .inl rfl⟩, fun h => f0 h, fun h => f1 h, fun h => f2 h, fun h => f3 h, fun h => f4 h, fun h => f5 h, fun h => (f6 h).imp fun B h => ⟨h.1, .inl rfl⟩, fun _ => ⟨l6, _, rfl, .inr hown3⟩, fun h => f8 h, fun h => f9 h, fun h => f10 h, fun h => absurd (f11 h).1 (by rw [hL]; decide), fun h => absurd (f11 (f12 h).1).1 (by rw [hL]; decide), fun h => f13 h⟩
            · intro L x a w K hL hd hf hx hΦ hK
              obtain ⟨hI, f0, f1, f2, f3, f4, f5, f6, f7, f8, f9, f10, f11, f12, f13⟩ := hΦ
              have e9 : a.tmps[9]? = some (.slice (some ⟨g2, 0, none⟩) n2 c2) := hf 9 (of_decide_eq_true (by kernel_rfl))
              clear hf hx hd
              go_simp
              refine hK _ _ ?_
              exact ⟨hI, fun h => f0 h, fun h => f1 h, fun h => f2 h, fun h => f3 h, fun h => f4 h, fun h => f5 h, fun h => f6 h, fun h => f7 h, fun _ => rfl, fun h => f9 h, fun h => f10 h, fun h => f11 h, fun h => f12 h, fun h => f13 h⟩
            · intro L x a w K hL hd hf hx hΦ hK
              obtain ⟨hI, f0, f1, f2, f3, f4, f5, f6, f7, f8, f9, f10, f11, f12, f13⟩ := hΦ
              have e10 : a.tmps[10]? = some (.int .i64 (C : Int)) := hf 10 (of_decide_eq_true (by kernel_rfl))
              clear hf hx hd
              go_simp
              refine hK _ _ ?_
              exact ⟨hI, fun h => f0 h, fun h => f1 h, fun h => f2 h, fun h => f3 h, fun h => f4 h, fun h => f5 h, fun h => f6 h, fun h => f7 h, fun h => f8 h, fun _ => rfl, fun h => f10 h, fun h => f11 h, fun h => f12 h, fun h => f13 h⟩
            · intro L x a w K hL hd hf hx hΦ hK
              obtain ⟨hI, f0, f1, f2, f3, f4, f5, f6, f7, f8, f9, f10, f11, f12, f13⟩ := hΦ
              have d8 := f8 (hd 8 (by kernel_rfl))
              have e75 : a.tmps[75]? = some (x 75) := hx 8 _ 75 rfl rfl (hd 8 (by kernel_rfl))
              have d9 := f9 (hd 9 (by kernel_rfl))
              have e76 : a.tmps[76]? = some (x 76) := hx 9 _ 76 rfl rfl (hd 9 (by kernel_rfl))
              clear hf hx hd
              rw [d8] at e75
              rw [d9] at e76
              go_simp
              have e77 : (if c2 = C then some (⟨g2, 0, none⟩ : Addr) else some ⟨g2, C, none⟩) = some ⟨g2, bo, none⟩ := by rw [HBO.out]; split <;> rfl
              rw [e77]
              refine hK _ _ ?_
              exact ⟨hI, fun h => f0 h, fun h => f1 h, fun h => f2 h, fun h => f3 h, fun h => f4 h, fun h => f5 h, fun h => f6 h, fun h => f7 h, fun h => f8 h, fun h => f9 h, fun _ => rfl, fun h => f11 h, fun h => f12 h, fun h => f13 h⟩
            · intro L x a w K hL hd hf hx hΦ hK
              obtain ⟨hI, f0, f1, f2, f3, f4, f5, f6, f7, f8, f9, f10, f11, f12, f13⟩ := hΦ
              have d7 := f7 (hd 7 (by kernel_rfl))
              have e74 : a.tmps[74]? = some (x 74) := hx 7 _ 74 rfl rfl (hd 7 (by kernel_rfl))
              have d10 := f10 (hd 10 (by kernel_rfl))
              have e77 : a.tmps[77]? = some (x 77) := hx 10 _ 77 rfl rfl (hd 10 (by kernel_rfl))
              have l7 := hd 7 (by kernel_rfl)
              clear hf hx hd
              obtain ⟨l6, v, hv, hvo⟩ := d7
              rw [hv] at e74
              rw [d10] at e77
              have hown := hvo.resolve_left (by rw [hL]; decide)
              refine of_wanted9 rfl (step_app_any rfl elem25 _ _ rfl v wz.heap.size (m + 1) (ints (os ++ [z])) (ev9 e74) hown ⟨g2, bo, none⟩ (n2 - C) (c2 - C) (ints (ys.drop C)) (ev9 e77) (by have := HN2.out; simp [ints]; omega) (hdr w hI.1) (ints_one _) (by simp only [maxLen]; omega) (by omega) hI.1.size ?_)
              intro v' w' hown2 hgrow hnil hat
              have hb2 : Below wz.heap.size wz w' := hI.1.grown hgrow hI.1.size (fun k hk => own_ge hown k hk)
              refine hK _ _ ?_
              exact ⟨⟨hb2, .inl l7⟩, fun h => f0 h, fun h => f1 h, fun h => f2 h, fun h => f3 h, fun h => f4 h, fun h => f5 h, fun h => (f6 h).imp fun B h => ⟨h.1, .inl l7⟩, fun h => ⟨l6, v, hv, .inl rfl⟩, fun h => f8 h, fun h => f9 h, fun h => f10 h, fun _ => ⟨l7, hown2⟩, fun h => absurd (f12 h).1 (by rw [hL]; decide), fun h => f13 h⟩
            · intro L x a w K hL hd hf hx hΦ hK
              obtain ⟨hI, f0, f1, f2, f3, f4, f5, f6, f7, f8, f9, f10, f11, f12, f13⟩ := hΦ
              have d11 := f11 (hd 11 (by kernel_rfl))
              have e78 : a.tmps[78]? = some (x 78) := hx 11 _ 78 rfl rfl (hd 11 (by kernel_rfl))
              have l11 := hd 11 (by kernel_rfl)
              clear hf hx hd
              go_simp
              refine hK _ _ ?_
              exact ⟨hI, fun h => f0 h, fun h => f1 h, fun h => f2 h, fun h => f3 h, fun h => f4 h, fun h => f5 h, fun h => f6 h, fun h => f7 h, fun h => f8 h, fun h => f9 h, fun h => f10 h, fun h => f11 h, fun _ => ⟨l11, rfl⟩, fun h => f13 h⟩
            · intro L x a w K hL hd hf hx hΦ hK
              obtain ⟨hI, f0, f1, f2, f3, f4, f5, f6, f7, f8, f9, f10, f11, f12, f13⟩ := hΦ
              clear hf hx hd
              go_simp
              refine hK _ _ ?_
              exact ⟨hI, fun h => f0 h, fun h => f1 h, fun h => f2 h, fun h => f3 h, fun h => f4 h, fun h => f5 h, fun h => f6 h, fun h => f7 h, fun h => f8 h, fun h => f9 h, fun h => f10 h, fun h => f11 h, fun h => f12 h, fun _ => rfl⟩
            · rintro x W ⟨hI, f0, f1, f2, f3, f4, f5, f6, f7, f8, f9, f10, f11, f12, f13⟩
              have h11 := (f11 (by kernel_rfl)).2
              have h12 := (f12 (by kernel_rfl)).2
              have h13 := f13 (by kernel_rfl)
              simp only [Exit.then]
              go_step
              go_meet
              case rel => exact ⟨h13, by rw [h12]; exact h11, hI.1⟩
          case rest =>
            obtain ⟨rfl, ho, hB⟩ := hcut
            have HO9 := Lib.hid ho
            have HB9 := Lib.hid hB
            clear ho hB
            go_step
            go_wp2_with (fail)
            go_ret2
            have hz1 := (HBW.out.trans (HBc.out.mono HBW.out.size))
            have hz2 := hz1.trans (HBz.out.mono hz1.size)
            refine ⟨_, rfl, ?_, hz2.trans (HB9.out.mono hz2.size)⟩
            have h9 := own_mono9 HO9.out hz2.size
            have e4 : m + 1 + (n2 - C) = L.length := by rw [HLE.out, List.length_append, List.length_append, List.length_drop, HOS.out, List.length_reverse, List.length_drop]; have := HM.out; have := HN1.out; have := HN2.out; simp; omega
            have e5 : ints (os ++ [z]) ++ ints (ys.drop C) = ints L := by rw [HLE.out]; simp [ints]
            rw [e4, e5] at h9
            exact h9
theorem rbetw_yes {nodes : List Go.HK.HN} {z : Nat} (h : WF nodes z) (w : World) (ge ce : Nat) (nw : Int) (ga : Option Addr) (gn gc : Nat) (a b : Nat) (ha : a < nodes.length) (hb : b < nodes.length) (he : EntsAt w ge (ents nodes)) :
    Calls Try.prog 52 #[.agg #[.slice (some ⟨ge, 0, none⟩) nodes.length ce, .int .i64 nw, .slice ga gn gc], .int .i64 (a : Int), .int .i64 (b : Int)] w (RetI w (betweenL nodes a b) 0) := by
  have hway := fun (x : Nat) (hx : x < nodes.length) => rway_any h ge ce gn gc ga nw (x + 1) (x : Int) (by omega) (by omega) (by omega)
  unfold WayOk RetS at hway
  simp only [wayI_nat] at hway
  exact rbetw_walk w ge nodes.length ce nw ga gn gc a b ha hb (wayL nodes a) (wayL nodes b) _ (cpl (wayL nodes a) (wayL nodes b)) _ _ (Lib.hid rfl) (Lib.hid rfl) (Lib.hid rfl) (Lib.hid rfl) (wayL_len9 h ha) (wayL_len9 h hb) (wayL_pos h ha) (wayL_pos h hb) (cpl_pos h ha hb) (cpl_le _ _)
    (Lib.hid fun W hB => hway a ha W (he.below hB (Nat.le_refl _))) (Lib.hid fun W hB => hway b hb W (he.below hB (Nat.le_refl _)))
end Go.Proofs.Ythneinepdbkgeaa
