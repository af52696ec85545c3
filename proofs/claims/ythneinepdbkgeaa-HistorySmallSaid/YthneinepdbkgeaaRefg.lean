/- The reference's ahead (62). -/
import Derived.Test.YthneinepdbkgeaaReft
namespace Go.Proofs.Ythneinepdbkgeaa
open Go.RowKit Go.HK
set_option linter.unusedVariables false
set_option linter.unusedSimpArgs false
set_option linter.unusedSectionVars false
theorem pre_more {xs ys : List Nat} {k x : Nat} (h : ∀ j, j < k → xs[j]? = ys[j]?) (hx : xs[k]? = some x) (hy : ys[k]? = some x) : ∀ j, j < k + 1 → xs[j]? = ys[j]? := fun j hj => by
  by_cases e : j = k
  · subst e; rw [hx, hy]
  · exact h j (by omega)
set_option maxRecDepth 100000 in
set_option maxHeartbeats 4000000 in
theorem rahead_any (w : World) (g1 n1 c1 g2 n2 c2 : Nat) (xs ys : List Nat) (h1 : RowAt w g1 n1 xs) (h2 : RowAt w g2 n2 ys) (l1 : n1 ≤ 2000) (l2 : n2 ≤ 2000) : Calls Try.prog 62 #[.slice (some ⟨g1, 0, none⟩) n1 c1, .slice (some ⟨g2, 0, none⟩) n2 c2] w (RetBo9 w (ahd xs ys)) := by
  have HL1 := Lib.hid h1.len
  have HL2 := Lib.hid h2.len
  have H1 := Lib.hid h1
  have H2 := Lib.hid h2
  clear h1 h2
  go_enter Try.func62, Try.ntmps62
  go_wp2_with (fail)
  go_loopw [5] (fun i wr => ∃ k : Nat, k ≤ n1 ∧ k ≤ n2 ∧ i = .int .i64 k ∧ Hid (∀ j, j < k → xs[j]? = ys[j]?) ∧ Below w.heap.size w wr) (fun i _ => n1 - (intOf i).toNat)
  case atStart => exact ⟨0, Nat.zero_le _, Nat.zero_le _, rfl, Lib.hid (fun j hj => absurd hj (by omega)), Below.refl _ _⟩
  case round =>
    obtain ⟨k, hk1, hk2, rfl, HE, hB⟩ := hrel
    have b0 : (0 : Int) ≤ (k : Int) := by omega
    by_cases q1 : (k : Int) < (n1 : Int)
    · by_cases q2 : (k : Int) < (n2 : Int)
      · obtain ⟨x, hx⟩ : ∃ x, xs[k]? = some x := ⟨_, List.getElem?_eq_getElem (by have := HL1.out; omega)⟩
        obtain ⟨y, hy⟩ : ∃ y, ys[k]? = some y := ⟨_, List.getElem?_eq_getElem (by have := HL2.out; omega)⟩
        have cx : wr.cell? ⟨g1, k, none⟩ = some (.int .i64 x) := (H1.out.below hB (Nat.le_refl _)).cell k x hx
        have cy : wr.cell? ⟨g2, k, none⟩ = some (.int .i64 y) := (H2.out.below hB (Nat.le_refl _)).cell k y hy
        have HX := Lib.hid hx
        have HY := Lib.hid hy
        have HB := Lib.hid hB
        clear hx hy hB
        by_cases hxy : (x : Int) = (y : Int)
        · have HXY := Lib.hid hxy
          go_wp2_with (fail)
          go_quiet (fail)
          go_wp2_with (fail)
          go_roundw
          case rel =>
            have hxy := HXY.out
            have e : x = y := by omega
            refine ⟨k + 1, by omega, by omega, by go_num, Lib.hid (pre_more HE.out HX.out (by rw [e]; exact HY.out)), bl_dr9 HB.out _⟩
          case measure => simp [intOf]; omega
        · have HXY := Lib.hid hxy
          go_wp2_with (fail)
          go_quiet (fail)
          go_wp2_with (fail)
          go_quiet (fail)
          go_wp2_with (fail)
          go_ret
          have e : ahd xs ys = decide (x < y) := by
            rw [ahd_at HE.out (by have := HL1.out; omega) (by have := HL2.out; omega) (by rw [HX.out, HY.out]; intro h; have := HXY.out; simp at h; omega), List.getD_eq_getElem?_getD, List.getD_eq_getElem?_getD, HX.out, HY.out]
            simp
          refine ⟨?_, bl_dr9 (bl_dr9 HB.out _) _⟩
          rw [e]
          rfl
      · have hd : decide (k < n2) = false := decide_eq_false (by omega)
        have HB := Lib.hid hB
        clear hB
        go_wp2_with (fail)
        go_ret
        have hx := HL1.out
        have hy := HL2.out
        refine ⟨?_, HB.out⟩
        rw [ahd_end (fun j h1 h2 => HE.out j (by omega))]
        rw [hx, hy]
        rfl
    · have hd : decide (k < n1) = false := decide_eq_false (by omega)
      have HB := Lib.hid hB
      clear hB
      go_wp2_with (fail)
      go_ret
      have hx := HL1.out
      have hy := HL2.out
      refine ⟨?_, HB.out⟩
      rw [ahd_end (fun j h1 h2 => HE.out j (by omega))]
      rw [hx, hy]
      rfl
end Go.Proofs.Ythneinepdbkgeaa
namespace Go.Proofs.Ythneinepdbkgeaa
open Go.RowKit Go.HK
set_option linter.unusedVariables false
set_option linter.unusedSimpArgs false
set_option linter.unusedSectionVars false
def RetDoN (w : World) (ge nl ce : Nat) (nw : Int) (ga : Option Addr) (gn gc : Nat) (k : Int) (e : Ending) (w' : World) : Prop :=
  e = .returned (.tuple #[.agg #[.slice (some ⟨ge, 0, none⟩) nl ce, .int .i64 nw, .slice ga gn gc], .int .i64 0, .int .i64 k]) ∧ Below w.heap.size w w'
/-- The worlds in which Do begins. -/
structure DoW (w w2 : World) (G R ge nl ce now gn gc : Nat) (ga : Option Addr) (es : List Ent) : Prop where
  eq : w2 = (w.alloc (.cells #[.slice (some ⟨ge, 0, none⟩) nl ce, .int .i64 (now : Int), .slice ga gn gc] 63)).alloc (.cells #[.slice none 0 0, .int .i64 0, .slice none 0 0] 63)
  gq : G = w.heap.size
  rq : R = w.heap.size + 1
  below : Below w.heap.size w w2
  box : w2.heap[G]? = some (Obj.cells #[.slice (some ⟨ge, 0, none⟩) nl ce, .int .i64 (now : Int), .slice ga gn gc] 63 (0, 0))
  res : w2.heap[R]? = some (Obj.cells #[.slice none 0 0, .int .i64 0, .slice none 0 0] 63 (0, 0))
  ents : EntsAt w2 ge es
  far : ge < w.heap.size
theorem DoW.of (w : World) (ge nl ce now gn gc : Nat) (ga : Option Addr) {es : List Ent} (he : EntsAt w ge es) : ∃ w2 G R, DoW w w2 G R ge nl ce now gn gc ga es := by
  have hB2 : Below w.heap.size w ((w.alloc (.cells #[.slice (some ⟨ge, 0, none⟩) nl ce, .int .i64 (now : Int), .slice ga gn gc] 63)).alloc (.cells #[.slice none 0 0, .int .i64 0, .slice none 0 0] 63)) := ((Below.refl _ w).alloc (Nat.le_refl _) _).alloc (by simp) _
  exact ⟨_, _, _, rfl, rfl, rfl, hB2, HK.blk_alloc (HK.blk_new _ _) _, blk_new19 _ _ _, he.below hB2 (Nat.le_refl _), he.lt⟩
set_option maxRecDepth 100000 in
set_option maxHeartbeats 4000000 in
theorem rdo_no {nodes : List Go.HK.HN} (w : World) (ge nl ce now gn gc : Nat) (ga : Option Addr) (state note : ByteArray) (tick k : Int) (hnl : nl = nodes.length) (hle : nl ≤ 1000) (hs : state.size ≤ maxLen) (hn : note.size ≤ maxLen) (hnow : now < nl) (he : EntsAt w ge (ents nodes))
    (hk : ((16384 < state.size ∨ 100 < note.size) ∧ k = 3) ∨ ((state.size ≤ 16384 ∧ note.size ≤ 100) ∧ doR nodes now state note tick = some k)) : Calls Try.prog 47 #[.agg #[.slice (some ⟨ge, 0, none⟩) nl ce, .int .i64 (now : Int), .slice ga gn gc], .string state, .string note, .int .i64 tick] w (RetDoN w ge nl ce now ga gn gc k) := by
  unfold maxLen at hs hn
  obtain ⟨w2, G, R, D⟩ := DoW.of w ge nl ce now gn gc ga he
  obtain ⟨x, hx⟩ := get_of_lt (show now < nodes.length by omega)
  have hx2 : (ents nodes)[now]? = some x.ent := by simp [ents, hx]
  have hc := D.ents.c now x.ent hx2
  have c1 : w2.cell? ⟨ge, now * 4 + 1, none⟩ = some (.int .i64 x.tick) := hc.2.1
  have c3 : w2.cell? ⟨ge, now * 4 + 3, none⟩ = some (.string x.state) := hc.2.2.2
  have hR : doR nodes now state note tick = if tick < x.tick then some 2 else if state = x.state then some 240 else if 1000 ≤ nl then some 4 else none := by rw [doR, tickF_get hx, stateF_get hx, hnl]
  rw [hR] at hk
  have x0 : w2.cell? ⟨G, 0, none⟩ = some (.slice (some ⟨ge, 0, none⟩) nl ce) := HK.blk_cell D.box 0
  have x1 : w2.cell? ⟨G, 1, none⟩ = some (.int .i64 (now : Int)) := HK.blk_cell D.box 1
  have x2 : w2.cell? ⟨G, 2, none⟩ = some (.slice ga gn gc) := HK.blk_cell D.box 2
  have r0 := HK.blk_cell D.res 0
  have r1 := HK.blk_cell D.res 1
  have r2 := HK.blk_cell D.res 2
  have rf := fun i => HK.blk_frozen D.res i
  have b0 : (0 : Int) ≤ (now : Int) := by omega
  have b1 : (now : Int) < (nl : Int) := by omega
  have HD := Lib.hid D
  have HK := Lib.hid hk
  have HNL := Lib.hid hnl
  obtain ⟨tk, htk⟩ : ∃ tk, tk = x.tick := ⟨_, rfl⟩
  obtain ⟨st, hst⟩ : ∃ st, st = x.state := ⟨_, rfl⟩
  have hF : ∀ W, W = ((w2.setCell ⟨R, 0, none⟩ (.slice (some ⟨ge, 0, none⟩) nl ce)).setCell ⟨R, 1, none⟩ (.int .i64 (now : Int))).setCell ⟨R, 2, none⟩ (.slice ga gn gc) → Below w.heap.size w W ∧ W.heap[R]? = some (.cells #[.slice (some ⟨ge, 0, none⟩) nl ce, .int .i64 (now : Int), .slice ga gn gc] 63 (0, 0)) := by
    rintro W rfl
    exact ⟨D.below.trans ((set3_frm w2 R _ _ _).below (B := w.heap.size) D.below.size (fun b e => by have := D.rq; omega)), set3 D.res _ _ _⟩
  have HF := Lib.hid hF
  rw [← htk, ← hst] at HK
  rw [← htk] at c1
  rw [← hst] at c3
  clear hk hR D he hx hx2 hc hnl htk hst hF
  go_enter Try.func47, Try.ntmps47
  go_upto_region 1 with (fail)
  rw [← HD.out.eq, ← HD.out.rq, ← HD.out.gq]
  have fin : ∀ kk : Int, k = kk → True := fun _ _ => trivial
  by_cases h1 : 16384 < state.size
  · obtain rfl : k = 3 := by rcases HK.out with h | h; exact h.2; omega
    go_wp2_with (fail)
    refine bodyPost_ret (results_cell3 (p := 8) (u := 9) (v := 10) (by kernel_rfl) _ _ R 63 _ (0, 0) _ (.int .i64 0) (.int .i64 3) rfl rfl rfl (HF.out _ rfl).2 Try.underlying63 rfl (by kernel_rfl)) rfl ?_
    exact ⟨rfl, (HF.out _ rfl).1⟩
  · have h1' : state.size ≤ 16384 := by omega
    clear h1
    by_cases h2 : 100 < note.size
    · obtain rfl : k = 3 := by rcases HK.out with h | h; exact h.2; omega
      go_wp2_with (fail)
      refine bodyPost_ret (results_cell3 (p := 8) (u := 9) (v := 10) (by kernel_rfl) _ _ R 63 _ (0, 0) _ (.int .i64 0) (.int .i64 3) rfl rfl rfl (HF.out _ rfl).2 Try.underlying63 rfl (by kernel_rfl)) rfl ?_
      exact ⟨rfl, (HF.out _ rfl).1⟩
    · have h2' : note.size ≤ 100 := by omega
      clear h2
      have HK2 := Lib.hid (HK.out.resolve_left (by omega)).2
      by_cases ht : tick < tk
      · have h := HK2.out
        rw [if_pos ht] at h
        obtain rfl : 2 = k := by simpa using h
        clear h
        go_wp2_with (fail)
        refine bodyPost_ret (results_cell3 (p := 8) (u := 9) (v := 10) (by kernel_rfl) _ _ R 63 _ (0, 0) _ (.int .i64 0) (.int .i64 2) rfl rfl rfl (HF.out _ rfl).2 Try.underlying63 rfl (by kernel_rfl)) rfl ?_
        exact ⟨rfl, (HF.out _ rfl).1⟩
      · by_cases hst : state = st
        · have h := HK2.out
          rw [if_neg ht, if_pos hst] at h
          obtain rfl : 240 = k := by simpa using h
          clear h
          have hsb : (state.toList == st.toList) = true := by rw [hst]; exact bytes_eq st
          clear hst
          go_wp2_with (fail)
          refine bodyPost_ret (results_cell3 (p := 8) (u := 9) (v := 10) (by kernel_rfl) _ _ R 63 _ (0, 0) _ (.int .i64 0) (.int .i64 240) rfl rfl rfl (HF.out _ rfl).2 Try.underlying63 rfl (by kernel_rfl)) rfl ?_
          exact ⟨rfl, (HF.out _ rfl).1⟩
        · have h := HK2.out
          rw [if_neg ht, if_neg hst] at h
          have hsb := bytes_ne hst
          obtain ⟨h4, rfl⟩ : 1000 ≤ nl ∧ 4 = k := by split at h; exact ⟨by assumption, by simpa using h⟩; cases h
          obtain rfl : nl = 1000 := by omega
          clear h hst h4
          go_wp2_with (fail)
          refine bodyPost_ret (results_cell3 (p := 8) (u := 9) (v := 10) (by kernel_rfl) _ _ R 63 _ (0, 0) _ (.int .i64 0) (.int .i64 4) rfl rfl rfl (HF.out _ rfl).2 Try.underlying63 rfl (by kernel_rfl)) rfl ?_
          exact ⟨rfl, (HF.out _ rfl).1⟩
end Go.Proofs.Ythneinepdbkgeaa
