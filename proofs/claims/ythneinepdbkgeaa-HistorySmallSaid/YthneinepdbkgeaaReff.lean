/- The reference's Go (49), New (46). -/
import Derived.Test.YthneinepdbkgeaaReft
namespace Go.Proofs.Ythneinepdbkgeaa
open Go.RowKit Go.HK
set_option linter.unusedVariables false
set_option linter.unusedSimpArgs false
set_option linter.unusedSectionVars false
/-- What Go answers: the tree with one more entry gone to. -/
def RetGo (w : World) (ge nl ce : Nat) (nw : Int) (went : List Nat) (st : ByteArray) (e : Ending) (w' : World) : Prop :=
  ∃ g c, e = .returned (.tuple #[.agg #[.slice (some ⟨ge, 0, none⟩) nl ce, .int .i64 nw, .slice (some ⟨g, 0, none⟩) went.length c], .string st, .int .i64 0]) ∧ RowAt w' g went.length went ∧ w.heap.size ≤ g ∧ Below w.heap.size w w'
set_option maxRecDepth 100000 in
set_option maxHeartbeats 4000000 in
theorem rgo_yes (w : World) (ge nl ce : Nat) (nw : Int) (gw gc : Nat) (es : List Ent) (went : List Nat) (n : Nat) (hn : nl = es.length) (hnn : n < nl) (he : EntsAt w ge es) (hw : RowAt w gw went.length went) (hwl : went.length ≤ 2000) (hwl0 : 0 < went.length) : Calls Try.prog 49 #[.agg #[.slice (some ⟨ge, 0, none⟩) nl ce, .int .i64 nw, .slice (some ⟨gw, 0, none⟩) went.length gc], .int .i64 n] w (RetGo w ge nl ce n (went ++ [n]) (stF es n)) := by
  obtain ⟨wl, hwle⟩ : ∃ wl, wl = went.length := ⟨_, rfl⟩
  rw [← hwle] at hw hwl hwl0 ⊢
  obtain ⟨G, hG⟩ : ∃ G, G = w.heap.size := ⟨_, rfl⟩
  obtain ⟨R, hR⟩ : ∃ R, R = w.heap.size + 1 := ⟨_, rfl⟩
  obtain ⟨w2, hw2⟩ : ∃ w2, w2 = (w.alloc (.cells #[.slice (some ⟨ge, 0, none⟩) nl ce, .int .i64 nw, .slice (some ⟨gw, 0, none⟩) wl gc] 63)).alloc (.cells #[.slice none 0 0, .int .i64 0, .slice none 0 0] 63) := ⟨_, rfl⟩
  have hB2 : Below w.heap.size w w2 := by rw [hw2]; exact ((Below.refl _ w).alloc (Nat.le_refl _) _).alloc (by simp) _
  have hX2 : w2.heap[G]? = some (.cells #[.slice (some ⟨ge, 0, none⟩) nl ce, .int .i64 nw, .slice (some ⟨gw, 0, none⟩) wl gc] 63 (0, 0)) := by rw [hw2, hG]; exact HK.blk_alloc (HK.blk_new _ _) _
  have hR2 : w2.heap[R]? = some (.cells #[.slice none 0 0, .int .i64 0, .slice none 0 0] 63 (0, 0)) := by rw [hw2, hR]; exact blk_new19 _ _ _
  have he2 := he.below hB2 (Nat.le_refl _)
  have hto := rto_any w2 ge nl ce nw (some ⟨gw, 0, none⟩) wl gc es n hn he2
  obtain ⟨st, hst⟩ : ∃ st, st = stF es n := ⟨_, rfl⟩
  have hr : toR es nw n = ((n : Int), st, 0) := by unfold toR; rw [if_pos (by omega), hst]; rfl
  rw [← hst]
  unfold RetTo at hto
  rw [hr] at hto
  have x0 : w2.cell? ⟨G, 0, none⟩ = some (.slice (some ⟨ge, 0, none⟩) nl ce) := HK.blk_cell hX2 0
  have x1 : w2.cell? ⟨G, 1, none⟩ = some (.int .i64 nw) := HK.blk_cell hX2 1
  have x2 : w2.cell? ⟨G, 2, none⟩ = some (.slice (some ⟨gw, 0, none⟩) wl gc) := HK.blk_cell hX2 2
  have HW := Lib.hid (hw.below hB2 (Nat.le_refl _))
  have HR2 := Lib.hid hR2
  have HTO := Lib.hid hto
  have HB2 := Lib.hid hB2
  have HW2 := Lib.hid hw2
  have HG := Lib.hid hG
  have HR := Lib.hid hR
  have HWL := Lib.hid hwle
  clear hX2 hR2 hto hB2 hw2 hG hR hn he he2 hw hr hst hwle
  go_enter Try.func49, Try.ntmps49
  go_upto_region 1 with (fail)
  rw [← HW2.out, ← HR.out, ← HG.out]
  go_upto_if 18 with (go_at_call 57; refine HTO.out.mono ?_; rintro e w3 ⟨rfl, hB3⟩; have HB3 := Lib.hid hB3; clear hB3)
  obtain ⟨T, hT⟩ : ∃ T, T = w3.heap.size := ⟨_, rfl⟩
  obtain ⟨w4, hw4⟩ : ∃ w4, w4 = w3.alloc (.cells #[.slice (some ⟨ge, 0, none⟩) nl ce, .int .i64 (n : Int), .slice (some ⟨gw, 0, none⟩) wl gc] 63) := ⟨_, rfl⟩
  rw [← hw4, ← hT]
  have hX4 : w4.heap[T]? = some (.cells #[.slice (some ⟨ge, 0, none⟩) nl ce, .int .i64 (n : Int), .slice (some ⟨gw, 0, none⟩) wl gc] 63 (0, 0)) := by rw [hw4, hT]; exact HK.blk_new _ _
  have hB4 : Below w2.heap.size w2 w4 := by rw [hw4]; exact (show Below w2.heap.size w2 w3 from ⟨HB3.out.os, HB3.out.tape, HB3.out.output, HB3.out.size, HB3.out.block⟩).alloc HB3.out.size _
  have hTw : w2.heap.size ≤ T := by rw [hT]; exact HB3.out.size
  have HX4 := Lib.hid hX4
  have HB4 := Lib.hid hB4
  have HT := Lib.hid hTw
  have t0 := HK.blk_cell hX4 0
  have t1 := HK.blk_cell hX4 1
  have t2 := HK.blk_cell hX4 2
  have tf := fun i => HK.blk_frozen hX4 i
  clear hX4 hB4 hTw hw4 hT x0 x1 x2
  have hTl := HK.blk_lt HX4.out
  have e0 : T ≠ w4.heap.size := by omega
  have e2 : w4.heap.size ≠ T := by omega
  have hR4 := Lib.hid (blk_up9 HB4.out HR2.out)
  have hRl := HK.blk_lt HR2.out
  go_upto_region 4 with (first
    | (at_builtin
       refine wpList_app_any rfl elem25 _ _ rfl (.slice (some ⟨w4.heap.size, 0, none⟩) 0 0) w4.heap.size 0 [] rfl (empty_row w4 3 1) ⟨gw, 0, none⟩ wl gc (ints went) rfl (by have := HW.out.len; simp [ints]; omega) (row_addr ((HW.out.below HB4.out (Nat.le_refl _)).below ((Below.refl w4.heap.size w4).alloc (Nat.le_refl _) _) (Nat.le_refl _))) (ints_one _) (by simp only [maxLen]; omega) (by omega) (by simp) ?_
       intro v5 w5 hown5 hgrow5 hnil5 hat5
       rw [Nat.zero_add] at hown5
       obtain ⟨g5, c5, rfl, hg5, hl5⟩ := own_form9 hown5 hwl0
       have hX5 := HK.blk_grown (HK.blk_alloc HX4.out (.cells #[] 3)) hgrow5 (fun h => by have h2 : T = w4.heap.size := Option.some.inj h; omega)
       have HOWN5 := Lib.hid hown5
       have HX5 := Lib.hid hX5
       have HGR5 := Lib.hid hgrow5
       have t0 := HK.blk_cell hX5 0
       have t1 := HK.blk_cell hX5 1
       have t2 := HK.blk_cell hX5 2
       clear hown5 hX5 hgrow5 hnil5 hat5)
    | (at_builtin
       refine wpList_app1 rfl elem25 _ _ rfl (.slice (some ⟨g5, 0, none⟩) wl c5) wl ([] ++ ints went) rfl (own_mono0 (HOWN5.out.alloc _)) w5.heap.size 1 #[.int .i64 (n : Int)] rfl (HK.blk_new w5 _) rfl (by simp [Value.oneCell']) (by simp only [maxLen]; omega) (by omega) ?_
       intro g6 c6 w6 hown6 hgrow6 hat6 hlt6
       have hX6 := HK.blk_grown (HK.blk_alloc HX5.out (.cells #[.int .i64 (n : Int)] 3)) hgrow6 (fun h => by have h2 : T = g5 := Option.some.inj h; omega)
       have HOWN6 := Lib.hid hown6
       have HX6 := Lib.hid hX6
       have HGR6 := Lib.hid hgrow6
       have HAT6 := Lib.hid hat6
       have t0 := HK.blk_cell hX6 0
       have t1 := HK.blk_cell hX6 1
       have t2 := HK.blk_cell hX6 2
       have tf := fun i => HK.blk_frozen hX6 i
       clear hown6 hX6 hgrow6 hat6))
  have hT0 := HT.out
  have k6 : w4.heap.size ≤ g6 := by
    rcases HAT6.out with h | h
    · have h2 : g5 = g6 := Option.some.inj h
      omega
    · have := HGR5.out.size
      simp at h this
      omega
  have hT6 := HX6.out
  have hR6 : w6.heap[R]? = some (.cells #[.slice none 0 0, .int .i64 0, .slice none 0 0] 63 (0, 0)) :=
    HK.blk_grown (HK.blk_alloc (HK.blk_grown (HK.blk_alloc hR4.out (.cells #[] 3)) HGR5.out (fun h => by have h2 : R = w4.heap.size := Option.some.inj h; omega)) (.cells #[.int .i64 (n : Int)] 3)) HGR6.out (fun h => by have h2 : R = g5 := Option.some.inj h; omega)
  have hF6 : Frm (fun k => w.heap.size ≤ k) w w6 := by
    have h4 : Below w.heap.size w w4 := HB2.out.trans (HB4.out.mono HB2.out.size)
    have hs := h4.size
    refine ((((Frm.of_below h4 _).alloc (.cells #[] 3)).grown HGR5.out (fun k e => ?_)).alloc (.cells #[.int .i64 (n : Int)] 3)).grown HGR6.out (fun k e => ?_)
    · have h2 : w4.heap.size = k := Option.some.inj e
      exact .inl (by omega)
    · have h2 : g5 = k := Option.some.inj e
      exact .inl (by omega)
  obtain ⟨w7, hw7⟩ : ∃ w7, w7 = w6.setCell ⟨T, 2, none⟩ (.slice (some ⟨g6, 0, none⟩) (wl + 1) c6) := ⟨_, rfl⟩
  rw [← hw7]
  have hwz : w.heap.size ≤ w2.heap.size := HB2.out.size
  have hX7 : w7.heap[T]? = some (.cells #[.slice (some ⟨ge, 0, none⟩) nl ce, .int .i64 (n : Int), .slice (some ⟨g6, 0, none⟩) (wl + 1) c6] 63 (0, 0)) := by rw [hw7]; exact HK.blk_set hT6 2 _
  have hR7 : w7.heap[R]? = some (.cells #[.slice none 0 0, .int .i64 0, .slice none 0 0] 63 (0, 0)) := by rw [hw7]; exact HK.blk_set_other hR6 (by show R ≠ T; omega) _
  have hF7 : Frm (fun k => w.heap.size ≤ k) w w7 := by rw [hw7]; exact hF6.setCell (.inl (by show w.heap.size ≤ T; omega)) _
  have hO7 : w7.ownsRow 0 3 1 (.slice (some ⟨g6, 0, none⟩) (wl + 1) c6) (wl + 1) ([] ++ ints went ++ [.int .i64 (n : Int)]) := by rw [hw7]; exact HK.owns_setCell HOWN6.out (fun h => by have h2 : g6 = T := Option.some.inj h; omega) _
  have HX7 := Lib.hid hX7
  have HR7 := Lib.hid hR7
  have HF7 := Lib.hid hF7
  have HO7 := Lib.hid hO7
  have q0 := HK.blk_cell hX7 0
  have q1 := HK.blk_cell hX7 1
  have q2 := HK.blk_cell hX7 2
  have r0 := HK.blk_cell hR7 0
  have r1 := HK.blk_cell hR7 1
  have r2 := HK.blk_cell hR7 2
  have rf := fun i => HK.blk_frozen hR7 i
  have K6 := Lib.hid k6
  have HWZ := Lib.hid hwz
  clear hX7 hR7 hF7 hO7 hw7 hF6 hR6 hT6 t0 t1 t2 tf k6 hwz
  go_wp2_with (fail)
  refine bodyPost_ret (results_cell3 (p := 4) (u := 5) (v := 6) (by kernel_rfl) _ _ R 63 _ (0, 0) _ (.string st) (.int .i64 0) rfl rfl rfl (set3 HR7.out _ _ _) Try.underlying63 rfl (by kernel_rfl)) rfl ?_
  have hg6 : g6 ≠ R := by have := K6.out; have := HT.out; omega
  have hf8 := set3_frm w7 R (.slice (some ⟨ge, 0, none⟩) nl ce) (.int .i64 (n : Int)) (.slice (some ⟨g6, 0, none⟩) (wl + 1) c6)
  have hlen : (went ++ [n]).length = wl + 1 := by rw [List.length_append, List.length_singleton, ← HWL.out]
  unfold RetGo
  rw [hlen]
  refine ⟨g6, c6, rfl, RowAt.of (base := 0) (c := c6) ?_ hlen, by have := K6.out; have := HWZ.out; omega, (HF7.out.trans (hf8.mono (fun b e => ?_))).below (Nat.le_refl _) (fun _ hk => hk)⟩
  · have h9 := hf8.owns HO7.out (fun g e e2 => by have e3 : g6 = g := Option.some.inj e; have e4 : g = R := e2; omega)
    have e1 : ints (went ++ [n]) = [] ++ ints went ++ [.int .i64 (n : Int)] := by simp [ints]
    rw [e1]
    exact h9
  · have e2 : b = R := e
    have := HWZ.out
    have := HR.out
    show w.heap.size ≤ b
    omega
def RetGoN (w : World) (ge nl ce : Nat) (nw : Int) (ga : Option Addr) (gn gc : Nat) (e : Ending) (w' : World) : Prop :=
  e = .returned (.tuple #[.agg #[.slice (some ⟨ge, 0, none⟩) nl ce, .int .i64 nw, .slice ga gn gc], .string ⟨#[]⟩, .int .i64 6]) ∧ Below w.heap.size w w'
set_option maxRecDepth 100000 in
set_option maxHeartbeats 4000000 in
theorem rgo_no (w : World) (ge nl ce : Nat) (nw : Int) (ga : Option Addr) (gn gc : Nat) (es : List Ent) (n : Int) (hn : nl = es.length) (hnn : ¬ (0 ≤ n ∧ n < nl)) (he : EntsAt w ge es) : Calls Try.prog 49 #[.agg #[.slice (some ⟨ge, 0, none⟩) nl ce, .int .i64 nw, .slice ga gn gc], .int .i64 n] w (RetGoN w ge nl ce nw ga gn gc) := by
  obtain ⟨G, hG⟩ : ∃ G, G = w.heap.size := ⟨_, rfl⟩
  obtain ⟨R, hR⟩ : ∃ R, R = w.heap.size + 1 := ⟨_, rfl⟩
  obtain ⟨w2, hw2⟩ : ∃ w2, w2 = (w.alloc (.cells #[.slice (some ⟨ge, 0, none⟩) nl ce, .int .i64 nw, .slice ga gn gc] 63)).alloc (.cells #[.slice none 0 0, .int .i64 0, .slice none 0 0] 63) := ⟨_, rfl⟩
  have hB2 : Below w.heap.size w w2 := by rw [hw2]; exact ((Below.refl _ w).alloc (Nat.le_refl _) _).alloc (by simp) _
  have hX2 : w2.heap[G]? = some (.cells #[.slice (some ⟨ge, 0, none⟩) nl ce, .int .i64 nw, .slice ga gn gc] 63 (0, 0)) := by rw [hw2, hG]; exact HK.blk_alloc (HK.blk_new _ _) _
  have hR2 : w2.heap[R]? = some (.cells #[.slice none 0 0, .int .i64 0, .slice none 0 0] 63 (0, 0)) := by rw [hw2, hR]; exact blk_new19 _ _ _
  have he2 := he.below hB2 (Nat.le_refl _)
  have hto := rto_any w2 ge nl ce nw ga gn gc es n hn he2
  have hr : toR es nw n = (nw, ⟨#[]⟩, 6) := by unfold toR; rw [if_neg (by omega)]
  unfold RetTo at hto
  rw [hr] at hto
  have x0 : w2.cell? ⟨G, 0, none⟩ = some (.slice (some ⟨ge, 0, none⟩) nl ce) := HK.blk_cell hX2 0
  have x1 : w2.cell? ⟨G, 1, none⟩ = some (.int .i64 nw) := HK.blk_cell hX2 1
  have x2 : w2.cell? ⟨G, 2, none⟩ = some (.slice ga gn gc) := HK.blk_cell hX2 2
  have HR2 := Lib.hid hR2
  have HTO := Lib.hid hto
  have HB2 := Lib.hid hB2
  have HW2 := Lib.hid hw2
  have HG := Lib.hid hG
  have HR := Lib.hid hR
  clear hX2 hR2 hto hB2 hw2 hG hR hn he he2 hr hnn
  go_enter Try.func49, Try.ntmps49
  go_upto_region 1 with (fail)
  rw [← HW2.out, ← HR.out, ← HG.out]
  go_upto_if 18 with (go_at_call 57; refine HTO.out.mono ?_; rintro e w3 ⟨rfl, hB3⟩; have HB3 := Lib.hid hB3; clear hB3)
  obtain ⟨T, hT⟩ : ∃ T, T = w3.heap.size := ⟨_, rfl⟩
  obtain ⟨w4, hw4⟩ : ∃ w4, w4 = w3.alloc (.cells #[.slice (some ⟨ge, 0, none⟩) nl ce, .int .i64 nw, .slice ga gn gc] 63) := ⟨_, rfl⟩
  rw [← hw4, ← hT]
  have hX4 : w4.heap[T]? = some (.cells #[.slice (some ⟨ge, 0, none⟩) nl ce, .int .i64 nw, .slice ga gn gc] 63 (0, 0)) := by rw [hw4, hT]; exact HK.blk_new _ _
  have hB4 : Below w2.heap.size w2 w4 := by rw [hw4]; exact (show Below w2.heap.size w2 w3 from ⟨HB3.out.os, HB3.out.tape, HB3.out.output, HB3.out.size, HB3.out.block⟩).alloc HB3.out.size _
  have hR4 := blk_up9 hB4 HR2.out
  have t0 := HK.blk_cell hX4 0
  have t1 := HK.blk_cell hX4 1
  have t2 := HK.blk_cell hX4 2
  have r0 := HK.blk_cell hR4 0
  have r1 := HK.blk_cell hR4 1
  have r2 := HK.blk_cell hR4 2
  have rf := fun i => HK.blk_frozen hR4 i
  have HB4 := Lib.hid hB4
  have HR4 := Lib.hid hR4
  clear hX4 hB4 hw4 hT x0 x1 x2 hR4
  go_wp2_with (fail)
  refine bodyPost_ret (results_cell3 (p := 4) (u := 5) (v := 6) (by kernel_rfl) _ _ R 63 _ (0, 0) _ (.string ⟨#[]⟩) (.int .i64 6) rfl rfl rfl (set3 HR4.out _ _ _) Try.underlying63 rfl (by kernel_rfl)) rfl ?_
  have h4 : Below w.heap.size w w4 := HB2.out.trans (HB4.out.mono HB2.out.size)
  exact ⟨rfl, h4.trans ((set3_frm w4 R _ _ _).below (B := w.heap.size) h4.size (fun b e => by have := HR.out; omega))⟩
def RetNew (w : World) (state : ByteArray) (e : Ending) (w' : World) : Prop :=
  ∃ g g2, e = .returned (.tuple #[.agg #[.slice (some ⟨g, 0, none⟩) 1 1, .int .i64 0, .slice (some ⟨g2, 0, none⟩) 1 1], .int .i64 0]) ∧ EntsAt w' g [⟨-1, 0, ⟨#[]⟩, state⟩] ∧ RowAt w' g2 1 [0] ∧ w.heap.size ≤ g ∧ w.heap.size ≤ g2 ∧ Below w.heap.size w w'
def RetNewN (w : World) (e : Ending) (w' : World) : Prop := e = .returned (.tuple #[.agg #[.slice none 0 0, .int .i64 0, .slice none 0 0], .int .i64 3]) ∧ Below w.heap.size w w'
set_option maxRecDepth 100000 in
set_option maxHeartbeats 4000000 in
theorem rnew_no (w : World) (state : ByteArray) (hs : 16384 < state.size) (hs2 : state.size ≤ maxLen) : Calls Try.prog 46 #[.string state] w (RetNewN w) := by
  unfold maxLen at hs2
  obtain ⟨R, hR⟩ : ∃ R, R = w.heap.size := ⟨_, rfl⟩
  obtain ⟨w1, hw1⟩ : ∃ w1, w1 = w.alloc (.cells #[.slice none 0 0, .int .i64 0, .slice none 0 0] 63) := ⟨_, rfl⟩
  have hB1 : Below w.heap.size w w1 := by rw [hw1]; exact (Below.refl _ w).alloc (Nat.le_refl _) _
  have hR1 : w1.heap[R]? = some (.cells #[.slice none 0 0, .int .i64 0, .slice none 0 0] 63 (0, 0)) := by rw [hw1, hR]; exact HK.blk_new _ _
  have r0 := HK.blk_cell hR1 0
  have r1 := HK.blk_cell hR1 1
  have r2 := HK.blk_cell hR1 2
  have rf := fun i => HK.blk_frozen hR1 i
  have HW := Lib.hid hw1
  have HR := Lib.hid hR
  have HR1 := Lib.hid hR1
  have HB1 := Lib.hid hB1
  clear hw1 hR hR1 hB1
  go_enter Try.func46, Try.ntmps46
  go_upto_region 1 with (fail)
  rw [← HW.out, ← HR.out]
  go_wp2_with (fail)
  refine bodyPost_ret (results_cell2 (p := 2) (u := 3) (by kernel_rfl) _ _ R 63 _ (0, 0) _ (.int .i64 3) rfl rfl (set3 HR1.out _ _ _) Try.underlying63 rfl (by kernel_rfl)) rfl ?_
  exact ⟨rfl, HB1.out.trans ((set3_frm w1 R _ _ _).below (B := w.heap.size) HB1.out.size (fun b e => by have := HR.out; omega))⟩
set_option maxRecDepth 100000 in
set_option maxHeartbeats 4000000 in
theorem rnew_yes (w : World) (state : ByteArray) (hs : state.size ≤ 16384) : Calls Try.prog 46 #[.string state] w (RetNew w state) := by
  obtain ⟨R, hR⟩ : ∃ R, R = w.heap.size := ⟨_, rfl⟩
  obtain ⟨w1, hw1⟩ : ∃ w1, w1 = w.alloc (.cells #[.slice none 0 0, .int .i64 0, .slice none 0 0] 63) := ⟨_, rfl⟩
  have hB1 : Below w.heap.size w w1 := by rw [hw1]; exact (Below.refl _ w).alloc (Nat.le_refl _) _
  have hR1 : w1.heap[R]? = some (.cells #[.slice none 0 0, .int .i64 0, .slice none 0 0] 63 (0, 0)) := by rw [hw1, hR]; exact HK.blk_new _ _
  have r0 := HK.blk_cell hR1 0
  have r1 := HK.blk_cell hR1 1
  have r2 := HK.blk_cell hR1 2
  have rf := fun i => HK.blk_frozen hR1 i
  have HW := Lib.hid hw1
  have HR := Lib.hid hR
  have HR1 := Lib.hid hR1
  have HB1 := Lib.hid hB1
  clear hw1 hR hR1 hB1
  go_enter Try.func46, Try.ntmps46
  go_upto_region 1 with (fail)
  rw [← HW.out, ← HR.out]
  have hlt := HK.blk_lt HR1.out
  have e0 : R ≠ w1.heap.size := by omega
  have e1 : R ≠ w1.heap.size + 1 := by omega
  have e2 : w1.heap.size ≠ R := by omega
  have e3 : w1.heap.size + 1 ≠ R := by omega
  go_wp2_with (fail)
  refine bodyPost_ret (results_cell2 (p := 2) (u := 3) (by kernel_rfl) _ _ R 63 _ (0, 0) _ (.int .i64 0) rfl rfl (HK.blk_alloc (HK.blk_alloc (set3 HR1.out _ _ _) _) _) Try.underlying63 rfl (by kernel_rfl)) rfl ?_
  obtain ⟨w2, hw2⟩ : ∃ w2, w2 = ((w1.setCell ⟨R, 0, none⟩ (.slice (some ⟨w1.heap.size, 0, none⟩) 1 1)).setCell ⟨R, 1, none⟩ (.int .i64 0)).setCell ⟨R, 2, none⟩ (.slice (some ⟨w1.heap.size + 1, 0, none⟩) 1 1) := ⟨_, rfl⟩
  have hs2 : w2.heap.size = w1.heap.size := by rw [hw2]; simp
  have hB2 : Below w.heap.size w w2 := by rw [hw2]; exact HB1.out.trans ((set3_frm w1 R _ _ _).below (B := w.heap.size) HB1.out.size (fun b e => by have := HR.out; omega))
  rw [← hw2, ← hs2]
  have h1 := HB1.out.size
  obtain ⟨w3, hw3⟩ : ∃ w3, w3 = w2.alloc (.cells #[.int .i64 (-1), .int .i64 0, .string ⟨#[]⟩, .string state] 98) := ⟨_, rfl⟩
  rw [← hw3]
  have hs3 : w3.heap.size = w2.heap.size + 1 := by rw [hw3]; simp
  have hE : (w3.alloc (.cells #[.int .i64 0] 3)).heap[w2.heap.size]? = some (.cells #[.int .i64 (-1), .int .i64 0, .string ⟨#[]⟩, .string state] 98 (0, 0)) := by
    refine HK.blk_alloc ?_ _
    rw [hw3]
    exact HK.blk_new _ _
  have hN : (w3.alloc (.cells #[.int .i64 0] 3)).heap[w2.heap.size + 1]? = some (.cells #[.int .i64 0] 3 (0, 0)) := by
    rw [← hs3]
    exact HK.blk_new _ _
  refine ⟨w2.heap.size, w2.heap.size + 1, rfl, ⟨fun j x hx => ?_, HK.blk_lt hE⟩, ⟨rfl, fun j x hx => ?_, HK.blk_lt hN⟩, by omega, by omega, ?_⟩
  · match j with
    | 0 =>
      obtain rfl : (⟨-1, 0, ⟨#[]⟩, state⟩ : Ent) = x := by simpa using hx
      exact ⟨HK.blk_cell hE 0, HK.blk_cell hE 1, HK.blk_cell hE 2, HK.blk_cell hE 3⟩
    | k + 1 => simp at hx
  · match j with
    | 0 =>
      obtain rfl : 0 = x := by simpa using hx
      exact HK.blk_cell hN 0
    | k + 1 => simp at hx
  · rw [hw3]
    exact (hB2.alloc hB2.size _).alloc (by have := hB2.size; simp; omega) _
end Go.Proofs.Ythneinepdbkgeaa
