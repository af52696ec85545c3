/- Full (12) at a good formula. pful.py prints this text. -/
import Derived.Test.YtdobflpbkfkmgaaDoorFug
import Derived.Test.YtdobflpbkfkmgaaDoorSam
namespace Go.Proofs.YtdobflpbkfkmgaaDoor
open Go.RowKit Go.HK Go.FR
set_option linter.unusedVariables false
set_option linter.unusedSimpArgs false
set_option linter.unusedSectionVars false
def FullOk (f : Fm) : Prop := ∀ (w : World) (a s : SL), IsTs (SN w) w a f.args → IsFs (SN w) w s f.subs → (fullF f).length ≤ 1000000 → Calls Tryd.prog 12 #[.agg #[.int .u8 (f.op : Int), .string f.name, a.v, s.v]] w fun e w' => e = .returned (.string (mkS (fullF f))) ∧ Below w.heap.size w w'
theorem sz_app (a b : ByteArray) : (a ++ b).size = a.size + b.size := ByteArray.size_append
theorem mkS_bys_app (a b : ByteArray) : a ++ b = mkS (bys a ++ bys b) := by
  conv => lhs; rw [← mk_bys a, ← mk_bys b]
  rw [mkS_app]
set_option maxRecDepth 100000 in
set_option maxHeartbeats 4000000 in
theorem full_atom (nm : ByteArray) (args : List Tm) : FullOk (.mk 1 nm args []) := by
  intro w a s ha hs hN
  simp only [FR.Fm.op, FR.Fm.name, FR.Fm.args, FR.Fm.subs] at ha hs ⊢
  obtain ⟨aa, an, ac⟩ := a
  obtain ⟨sa, sn, sc⟩ := s
  simp only [SL.v]
  have hc := fun (W : World) (hW : Below w.heap.size w W) => fullT_ok (.mk false nm args) W ⟨aa, an, ac⟩ (ha.turn (sn_up hW)) (by simpa [fullF, bodyF, fullT] using hN)
  have e : mkS (fullT (.mk false nm args)) = mkS (fullF (.mk 1 nm args [])) := by simp [fullF, bodyF, fullT]
  obtain ⟨out, hout⟩ : ∃ out, out = mkS (fullF (.mk 1 nm args [])) := ⟨_, rfl⟩
  rw [e, ← hout] at hc
  rw [← hout]
  simp only [FR.Tm.var, FR.Tm.name, SL.v] at hc
  have HC := Lib.hid hc
  clear hc ha hs hN e hout
  simp only [show ((1 : Nat) : Int) = 1 from rfl, show ((2 : Nat) : Int) = 2 from rfl, show ((3 : Nat) : Int) = 3 from rfl, show ((4 : Nat) : Int) = 4 from rfl, show ((5 : Nat) : Int) = 5 from rfl, show ((6 : Nat) : Int) = 6 from rfl, show ((7 : Nat) : Int) = 7 from rfl, show ((8 : Nat) : Int) = 8 from rfl, show ((9 : Nat) : Int) = 9 from rfl, show ((10 : Nat) : Int) = 10 from rfl, show ((11 : Nat) : Int) = 11 from rfl, show ((12 : Nat) : Int) = 12 from rfl, show ((13 : Nat) : Int) = 13 from rfl, show ((14 : Nat) : Int) = 14 from rfl, show ((15 : Nat) : Int) = 15 from rfl, show ((16 : Nat) : Int) = 16 from rfl]
  go_enter Tryd.func12, Tryd.ntmps12
  go_upto_region 1 with (fail)
  obtain ⟨w1, hw1⟩ : ∃ w1, w1 = w.alloc (.cells #[.int .u8 1, .string nm, .slice aa an ac, .slice sa sn sc] 25) := ⟨_, rfl⟩
  have hB1 : Below w.heap.size w w1 := by rw [hw1]; exact bl_al9 _
  have k1 : w1.heap[w.heap.size]? = some (.cells #[.int .u8 1, .string nm, .slice aa an ac, .slice sa sn sc] 25 (0, 0)) := by rw [hw1]; exact HK.blk_new _ _
  rw [← hw1]
  have bx0 := HK.blk_cell k1 0
  have bx1 := HK.blk_cell k1 1
  have bx2 := HK.blk_cell k1 2
  have bx3 := HK.blk_cell k1 3
  have HB1 := Lib.hid hB1
  have HK1 := Lib.hid k1
  clear k1 hw1 hB1
  go_wp2_with (fail)
  go_at_call 31
  with_reducible refine (HC.out _ HB1.out).mono ?_
  rintro _ w2 ⟨rfl, hB2⟩
  have HB2 := Lib.hid (HB1.out.trans (hB2.mono HB1.out.size))
  clear hB2
  go_wp2_with (fail)
  go_ret
  exact ⟨rfl, HB2.out⟩
set_option maxRecDepth 100000 in
set_option maxHeartbeats 4000000 in
theorem full_false (nm : ByteArray) (args : List Tm) (subs : List Fm) : FullOk (.mk 2 nm args subs) := by
  intro w a s ha hs hN
  simp only [FR.Fm.op, FR.Fm.name, FR.Fm.args, FR.Fm.subs] at ha hs ⊢
  obtain ⟨aa, an, ac⟩ := a
  obtain ⟨sa, sn, sc⟩ := s
  simp only [SL.v]
  have e : mkS (fullF (.mk 2 nm args subs)) = ⟨#[102, 97, 108, 115, 101]⟩ := by simp [fullF, bodyF, mkS]
  rw [e]
  clear ha hs hN e
  simp only [show ((1 : Nat) : Int) = 1 from rfl, show ((2 : Nat) : Int) = 2 from rfl, show ((3 : Nat) : Int) = 3 from rfl, show ((4 : Nat) : Int) = 4 from rfl, show ((5 : Nat) : Int) = 5 from rfl, show ((6 : Nat) : Int) = 6 from rfl, show ((7 : Nat) : Int) = 7 from rfl, show ((8 : Nat) : Int) = 8 from rfl, show ((9 : Nat) : Int) = 9 from rfl, show ((10 : Nat) : Int) = 10 from rfl, show ((11 : Nat) : Int) = 11 from rfl, show ((12 : Nat) : Int) = 12 from rfl, show ((13 : Nat) : Int) = 13 from rfl, show ((14 : Nat) : Int) = 14 from rfl, show ((15 : Nat) : Int) = 15 from rfl, show ((16 : Nat) : Int) = 16 from rfl]
  go_enter Tryd.func12, Tryd.ntmps12
  go_upto_region 1 with (fail)
  obtain ⟨w1, hw1⟩ : ∃ w1, w1 = w.alloc (.cells #[.int .u8 2, .string nm, .slice aa an ac, .slice sa sn sc] 25) := ⟨_, rfl⟩
  have hB1 : Below w.heap.size w w1 := by rw [hw1]; exact bl_al9 _
  have k1 : w1.heap[w.heap.size]? = some (.cells #[.int .u8 2, .string nm, .slice aa an ac, .slice sa sn sc] 25 (0, 0)) := by rw [hw1]; exact HK.blk_new _ _
  rw [← hw1]
  have bx0 := HK.blk_cell k1 0
  have bx1 := HK.blk_cell k1 1
  have bx2 := HK.blk_cell k1 2
  have bx3 := HK.blk_cell k1 3
  have HB1 := Lib.hid hB1
  have HK1 := Lib.hid k1
  clear k1 hw1 hB1
  go_wp2_with (fail)
  go_ret
  exact ⟨rfl, HB1.out⟩
set_option maxRecDepth 100000 in
set_option maxHeartbeats 4000000 in
theorem full_meta (nm : ByteArray) (args : List Tm) (subs : List Fm) : FullOk (.mk 15 nm args subs) := by
  intro w a s ha hs hN
  simp only [FR.Fm.op, FR.Fm.name, FR.Fm.args, FR.Fm.subs] at ha hs ⊢
  obtain ⟨aa, an, ac⟩ := a
  obtain ⟨sa, sn, sc⟩ := s
  simp only [SL.v]
  have e : mkS (fullF (.mk 15 nm args subs)) = nm := by simp [fullF, bodyF, mk_bys]
  rw [e]
  clear ha hs hN e
  simp only [show ((1 : Nat) : Int) = 1 from rfl, show ((2 : Nat) : Int) = 2 from rfl, show ((3 : Nat) : Int) = 3 from rfl, show ((4 : Nat) : Int) = 4 from rfl, show ((5 : Nat) : Int) = 5 from rfl, show ((6 : Nat) : Int) = 6 from rfl, show ((7 : Nat) : Int) = 7 from rfl, show ((8 : Nat) : Int) = 8 from rfl, show ((9 : Nat) : Int) = 9 from rfl, show ((10 : Nat) : Int) = 10 from rfl, show ((11 : Nat) : Int) = 11 from rfl, show ((12 : Nat) : Int) = 12 from rfl, show ((13 : Nat) : Int) = 13 from rfl, show ((14 : Nat) : Int) = 14 from rfl, show ((15 : Nat) : Int) = 15 from rfl, show ((16 : Nat) : Int) = 16 from rfl]
  go_enter Tryd.func12, Tryd.ntmps12
  go_upto_region 1 with (fail)
  obtain ⟨w1, hw1⟩ : ∃ w1, w1 = w.alloc (.cells #[.int .u8 15, .string nm, .slice aa an ac, .slice sa sn sc] 25) := ⟨_, rfl⟩
  have hB1 : Below w.heap.size w w1 := by rw [hw1]; exact bl_al9 _
  have k1 : w1.heap[w.heap.size]? = some (.cells #[.int .u8 15, .string nm, .slice aa an ac, .slice sa sn sc] 25 (0, 0)) := by rw [hw1]; exact HK.blk_new _ _
  rw [← hw1]
  have bx0 := HK.blk_cell k1 0
  have bx1 := HK.blk_cell k1 1
  have bx2 := HK.blk_cell k1 2
  have bx3 := HK.blk_cell k1 3
  have HB1 := Lib.hid hB1
  have HK1 := Lib.hid k1
  clear k1 hw1 hB1
  go_wp2_with (fail)
  go_ret
  exact ⟨rfl, HB1.out⟩
set_option maxRecDepth 100000 in
set_option maxHeartbeats 4000000 in
theorem full_inst (nm : ByteArray) (t0 t1 : Tm) (subs : List Fm) : FullOk (.mk 16 nm [t0, t1] subs) := by
  intro w a s ha hs hN
  simp only [FR.Fm.op, FR.Fm.name, FR.Fm.args, FR.Fm.subs] at ha hs ⊢
  obtain ⟨aa, an, ac⟩ := a
  obtain ⟨sa, sn, sc⟩ := s
  simp only [SL.v]
  have e : mkS (fullF (.mk 16 nm [t0, t1] subs)) = (((((nm ++ ⟨#[91]⟩) ++ t1.name) ++ ⟨#[47]⟩) ++ t0.name) ++ ⟨#[93]⟩) := by
    simp only [fullF, bodyF]
    apply ByteArray.ext
    simp [mkS, ByteArray.data_append, argN]
    rfl
  rw [e]
  have hlen : (mkS (fullF (.mk 16 nm [t0, t1] subs))).size ≤ 1000000 := by rw [mk_size]; exact hN
  rw [e] at hlen
  simp only [sz_app] at hlen
  have hl := ha.len
  simp only [List.length_cons, List.length_nil] at hl
  subst hl
  obtain ⟨g, o, rfl⟩ := ts_pos ha (by decide)
  obtain ⟨u0, _, c0, _, _, _⟩ := ts_at ha (k := 0) rfl
  obtain ⟨u1, _, c1, _, _, _⟩ := ts_at ha (k := 1) rfl
  have HGw := Lib.hid (World.block_lt_of_cell? w ⟨g, _, none⟩ c0)
  clear ha hs hN e
  obtain ⟨n0, hn0'⟩ : ∃ n0, n0 = t0.name := ⟨_, rfl⟩
  obtain ⟨n1, hn1'⟩ : ∃ n1, n1 = t1.name := ⟨_, rfl⟩
  rw [← hn0'] at c0 hlen ⊢
  rw [← hn1'] at c1 hlen ⊢
  have HD0 := Lib.hid c0
  have HD1 := Lib.hid c1
  have HSZ := Lib.hid (show nm.size + n0.size + n1.size ≤ 1000000 by omega)
  clear c0 c1 hlen hn0' hn1'
  simp only [show ((1 : Nat) : Int) = 1 from rfl, show ((2 : Nat) : Int) = 2 from rfl, show ((3 : Nat) : Int) = 3 from rfl, show ((4 : Nat) : Int) = 4 from rfl, show ((5 : Nat) : Int) = 5 from rfl, show ((6 : Nat) : Int) = 6 from rfl, show ((7 : Nat) : Int) = 7 from rfl, show ((8 : Nat) : Int) = 8 from rfl, show ((9 : Nat) : Int) = 9 from rfl, show ((10 : Nat) : Int) = 10 from rfl, show ((11 : Nat) : Int) = 11 from rfl, show ((12 : Nat) : Int) = 12 from rfl, show ((13 : Nat) : Int) = 13 from rfl, show ((14 : Nat) : Int) = 14 from rfl, show ((15 : Nat) : Int) = 15 from rfl, show ((16 : Nat) : Int) = 16 from rfl]
  go_enter Tryd.func12, Tryd.ntmps12
  go_upto_region 1 with (fail)
  obtain ⟨w1, hw1⟩ : ∃ w1, w1 = w.alloc (.cells #[.int .u8 16, .string nm, .slice (some ⟨g, o, none⟩) 2 ac, .slice sa sn sc] 25) := ⟨_, rfl⟩
  have hB1 : Below w.heap.size w w1 := by rw [hw1]; exact bl_al9 _
  have k1 : w1.heap[w.heap.size]? = some (.cells #[.int .u8 16, .string nm, .slice (some ⟨g, o, none⟩) 2 ac, .slice sa sn sc] 25 (0, 0)) := by rw [hw1]; exact HK.blk_new _ _
  rw [← hw1]
  have bx0 := HK.blk_cell k1 0
  have bx1 := HK.blk_cell k1 1
  have bx2 := HK.blk_cell k1 2
  have bx3 := HK.blk_cell k1 3
  have HB1 := Lib.hid hB1
  have HK1 := Lib.hid k1
  clear k1 hw1 hB1
  have c0 := (HB1.out.cell (p := ⟨g, o + 0 * 3 + 1, none⟩) HGw.out).trans HD0.out
  have c1 := (HB1.out.cell (p := ⟨g, o + 1 * 3 + 1, none⟩) HGw.out).trans HD1.out
  have HG := Lib.hid (Nat.lt_of_lt_of_le HGw.out HB1.out.size)
  have HC0 := Lib.hid c0
  have HC1 := Lib.hid c1
  simp only [Nat.zero_mul, Nat.one_mul, Nat.add_zero, Nat.add_assoc, Nat.reduceAdd] at HC0 HC1
  clear c0 c1
  go_upto_region 9 with (fail)
  go_cut [2] from 2 to 37 (fun v wx => v = .string (((((nm ++ ⟨#[91]⟩) ++ n1) ++ ⟨#[47]⟩) ++ n0) ++ ⟨#[93]⟩) ∧ Below w1.heap.size w1 wx)
  case first =>
    refine Go.RE.wp_region_eachg [21, 22, 23, 24, 25, 26, 27, 28, 29, 30, 31, 32, 33, 34, 35, 36, 37, 2] (fun L x W => (Below w1.heap.size w1 W) ∧ (L 0 = true → x 21 = .pointer (some ⟨w.heap.size, 1, none⟩)) ∧ (L 1 = true → x 22 = .string nm) ∧ (L 2 = true → x 23 = .string (nm ++ ⟨#[91]⟩)) ∧ (L 3 = true → x 24 = .pointer (some ⟨w.heap.size, 2, none⟩)) ∧ (L 4 = true → x 25 = .slice (some ⟨g, o, none⟩) 2 ac) ∧ (L 5 = true → x 26 = .pointer (some ⟨g, o + 3, none⟩)) ∧ (L 6 = true → x 27 = .pointer (some ⟨g, o + 4, none⟩)) ∧ (L 7 = true → x 28 = .string n1) ∧ (L 8 = true → x 29 = .string ((nm ++ ⟨#[91]⟩) ++ n1)) ∧ (L 9 = true → x 30 = .string (((nm ++ ⟨#[91]⟩) ++ n1) ++ ⟨#[47]⟩)) ∧ (L 10 = true → x 31 = .pointer (some ⟨w.heap.size, 2, none⟩)) ∧ (L 11 = true → x 32 = .slice (some ⟨g, o, none⟩) 2 ac) ∧ (L 12 = true → x 33 = .pointer (some ⟨g, o, none⟩)) ∧ (L 13 = true → x 34 = .pointer (some ⟨g, o + 1, none⟩)) ∧ (L 14 = true → x 35 = .string n0) ∧ (L 15 = true → x 36 = .string ((((nm ++ ⟨#[91]⟩) ++ n1) ++ ⟨#[47]⟩) ++ n0)) ∧ (L 16 = true → x 37 = .string (((((nm ++ ⟨#[91]⟩) ++ n1) ++ ⟨#[47]⟩) ++ n0) ++ ⟨#[93]⟩)) ∧ (L 17 = true → x 2 = .string (((((nm ++ ⟨#[91]⟩) ++ n1) ++ ⟨#[47]⟩) ++ n0) ++ ⟨#[93]⟩))) (by kernel_rfl) (by kernel_rfl) (by kernel_rfl) ?_ ((Go.RE.Each.cons ?_ (Go.RE.Each.cons ?_ (Go.RE.Each.cons ?_ (Go.RE.Each.cons ?_ (Go.RE.Each.cons ?_ (Go.RE.Each.cons ?_ (Go.RE.Each.cons ?_ (Go.RE.Each.cons ?_ (Go.RE.Each.cons ?_ (Go.RE.Each.cons ?_ (Go.RE.Each.cons ?_ (Go.RE.Each.cons ?_ (Go.RE.Each.cons ?_ (Go.RE.Each.cons ?_ (Go.RE.Each.cons ?_ (Go.RE.Each.cons ?_ (Go.RE.Each.cons ?_ (Go.RE.Each.cons ?_ Go.RE.Each.nil))))))))))))))))))) ?_
    · exact fun x => ⟨bl_dr9 (Below.refl _ _), nofun, nofun, nofun, nofun, nofun, nofun, nofun, nofun, nofun, nofun, nofun, nofun, nofun, nofun, nofun, nofun, nofun, nofun⟩
    · intro L x a wR K hL hd hf hx hΦ hK
      obtain ⟨hI, f0, f1, f2, f3, f4, f5, f6, f7, f8, f9, f10, f11, f12, f13, f14, f15, f16, f17⟩ := hΦ
      refine ⟨fun _ => ?_, fun h => absurd h (by rw [Go.RE.wanted_none rfl]; decide)⟩
      have e1 : a.tmps[1]? = some (.pointer (some ⟨w.heap.size, 0, none⟩)) := hf 1 (of_decide_eq_true (by kernel_rfl))
      clear hf hx hd
      go_simp
      refine hK _ _ ?_
      exact ⟨hI, fun _ => rfl, f1, f2, f3, f4, f5, f6, f7, f8, f9, f10, f11, f12, f13, f14, f15, f16, f17⟩
    · intro L x a wR K hL hd hf hx hΦ hK
      obtain ⟨hI, f0, f1, f2, f3, f4, f5, f6, f7, f8, f9, f10, f11, f12, f13, f14, f15, f16, f17⟩ := hΦ
      refine ⟨fun _ => ?_, fun h => absurd h (by rw [Go.RE.wanted_none rfl]; decide)⟩
      have d0 := f0 (hd 0 (by kernel_rfl))
      have e21 : a.tmps[21]? = some (x 21) := hx 0 _ 21 rfl rfl (hd 0 (by kernel_rfl))
      rw [d0] at e21
      have kb := (hI.block _ (HK.blk_lt HK1.out)).trans HK1.out
      have xb := HK.blk_cell kb 1
      clear hf hx hd
      go_simp
      refine hK _ _ ?_
      exact ⟨hI, f0, fun _ => rfl, f2, f3, f4, f5, f6, f7, f8, f9, f10, f11, f12, f13, f14, f15, f16, f17⟩
    · intro L x a wR K hL hd hf hx hΦ hK
      obtain ⟨hI, f0, f1, f2, f3, f4, f5, f6, f7, f8, f9, f10, f11, f12, f13, f14, f15, f16, f17⟩ := hΦ
      refine ⟨fun _ => ?_, fun h => absurd h (by rw [Go.RE.wanted_none rfl]; decide)⟩
      have d1 := f1 (hd 1 (by kernel_rfl))
      have e22 : a.tmps[22]? = some (x 22) := hx 1 _ 22 rfl rfl (hd 1 (by kernel_rfl))
      rw [d1] at e22
      clear hf hx hd
      go_simp
      rw [if_neg (by have := HSZ.out; omega)]
      go_simp
      refine hK _ _ ?_
      exact ⟨hI, f0, f1, fun _ => rfl, f3, f4, f5, f6, f7, f8, f9, f10, f11, f12, f13, f14, f15, f16, f17⟩
    · intro L x a wR K hL hd hf hx hΦ hK
      obtain ⟨hI, f0, f1, f2, f3, f4, f5, f6, f7, f8, f9, f10, f11, f12, f13, f14, f15, f16, f17⟩ := hΦ
      refine ⟨fun _ => ?_, fun h => absurd h (by rw [Go.RE.wanted_none rfl]; decide)⟩
      have e1 : a.tmps[1]? = some (.pointer (some ⟨w.heap.size, 0, none⟩)) := hf 1 (of_decide_eq_true (by kernel_rfl))
      clear hf hx hd
      go_simp
      refine hK _ _ ?_
      exact ⟨hI, f0, f1, f2, fun _ => rfl, f4, f5, f6, f7, f8, f9, f10, f11, f12, f13, f14, f15, f16, f17⟩
    · intro L x a wR K hL hd hf hx hΦ hK
      obtain ⟨hI, f0, f1, f2, f3, f4, f5, f6, f7, f8, f9, f10, f11, f12, f13, f14, f15, f16, f17⟩ := hΦ
      refine ⟨fun _ => ?_, fun h => absurd h (by rw [Go.RE.wanted_none rfl]; decide)⟩
      have d3 := f3 (hd 3 (by kernel_rfl))
      have e24 : a.tmps[24]? = some (x 24) := hx 3 _ 24 rfl rfl (hd 3 (by kernel_rfl))
      rw [d3] at e24
      have kb := (hI.block _ (HK.blk_lt HK1.out)).trans HK1.out
      have xb := HK.blk_cell kb 2
      clear hf hx hd
      go_simp
      refine hK _ _ ?_
      exact ⟨hI, f0, f1, f2, f3, fun _ => rfl, f5, f6, f7, f8, f9, f10, f11, f12, f13, f14, f15, f16, f17⟩
    · intro L x a wR K hL hd hf hx hΦ hK
      obtain ⟨hI, f0, f1, f2, f3, f4, f5, f6, f7, f8, f9, f10, f11, f12, f13, f14, f15, f16, f17⟩ := hΦ
      refine ⟨fun _ => ?_, fun h => absurd h (by rw [Go.RE.wanted_none rfl]; decide)⟩
      have d4 := f4 (hd 4 (by kernel_rfl))
      have e25 : a.tmps[25]? = some (x 25) := hx 4 _ 25 rfl rfl (hd 4 (by kernel_rfl))
      rw [d4] at e25
      clear hf hx hd
      go_simp
      refine hK _ _ ?_
      exact ⟨hI, f0, f1, f2, f3, f4, fun _ => rfl, f6, f7, f8, f9, f10, f11, f12, f13, f14, f15, f16, f17⟩
    · intro L x a wR K hL hd hf hx hΦ hK
      obtain ⟨hI, f0, f1, f2, f3, f4, f5, f6, f7, f8, f9, f10, f11, f12, f13, f14, f15, f16, f17⟩ := hΦ
      refine ⟨fun _ => ?_, fun h => absurd h (by rw [Go.RE.wanted_none rfl]; decide)⟩
      have d5 := f5 (hd 5 (by kernel_rfl))
      have e26 : a.tmps[26]? = some (x 26) := hx 5 _ 26 rfl rfl (hd 5 (by kernel_rfl))
      rw [d5] at e26
      clear hf hx hd
      go_simp
      refine hK _ _ ?_
      exact ⟨hI, f0, f1, f2, f3, f4, f5, fun _ => rfl, f7, f8, f9, f10, f11, f12, f13, f14, f15, f16, f17⟩
    · intro L x a wR K hL hd hf hx hΦ hK
      obtain ⟨hI, f0, f1, f2, f3, f4, f5, f6, f7, f8, f9, f10, f11, f12, f13, f14, f15, f16, f17⟩ := hΦ
      refine ⟨fun _ => ?_, fun h => absurd h (by rw [Go.RE.wanted_none rfl]; decide)⟩
      have d6 := f6 (hd 6 (by kernel_rfl))
      have e27 : a.tmps[27]? = some (x 27) := hx 6 _ 27 rfl rfl (hd 6 (by kernel_rfl))
      rw [d6] at e27
      have cc := (hI.cell (p := ⟨g, o + 4, none⟩) HG.out).trans HC1.out
      clear hf hx hd
      go_simp
      refine hK _ _ ?_
      exact ⟨hI, f0, f1, f2, f3, f4, f5, f6, fun _ => rfl, f8, f9, f10, f11, f12, f13, f14, f15, f16, f17⟩
    · intro L x a wR K hL hd hf hx hΦ hK
      obtain ⟨hI, f0, f1, f2, f3, f4, f5, f6, f7, f8, f9, f10, f11, f12, f13, f14, f15, f16, f17⟩ := hΦ
      refine ⟨fun _ => ?_, fun h => absurd h (by rw [Go.RE.wanted_none rfl]; decide)⟩
      have d2 := f2 (hd 2 (by kernel_rfl))
      have e23 : a.tmps[23]? = some (x 23) := hx 2 _ 23 rfl rfl (hd 2 (by kernel_rfl))
      rw [d2] at e23
      have d7 := f7 (hd 7 (by kernel_rfl))
      have e28 : a.tmps[28]? = some (x 28) := hx 7 _ 28 rfl rfl (hd 7 (by kernel_rfl))
      rw [d7] at e28
      clear hf hx hd
      go_simp
      rw [if_neg (by have := HSZ.out; omega)]
      go_simp
      refine hK _ _ ?_
      exact ⟨hI, f0, f1, f2, f3, f4, f5, f6, f7, fun _ => rfl, f9, f10, f11, f12, f13, f14, f15, f16, f17⟩
    · intro L x a wR K hL hd hf hx hΦ hK
      obtain ⟨hI, f0, f1, f2, f3, f4, f5, f6, f7, f8, f9, f10, f11, f12, f13, f14, f15, f16, f17⟩ := hΦ
      refine ⟨fun _ => ?_, fun h => absurd h (by rw [Go.RE.wanted_none rfl]; decide)⟩
      have d8 := f8 (hd 8 (by kernel_rfl))
      have e29 : a.tmps[29]? = some (x 29) := hx 8 _ 29 rfl rfl (hd 8 (by kernel_rfl))
      rw [d8] at e29
      clear hf hx hd
      go_simp
      rw [if_neg (by have := HSZ.out; omega)]
      go_simp
      refine hK _ _ ?_
      exact ⟨hI, f0, f1, f2, f3, f4, f5, f6, f7, f8, fun _ => rfl, f10, f11, f12, f13, f14, f15, f16, f17⟩
    · intro L x a wR K hL hd hf hx hΦ hK
      obtain ⟨hI, f0, f1, f2, f3, f4, f5, f6, f7, f8, f9, f10, f11, f12, f13, f14, f15, f16, f17⟩ := hΦ
      refine ⟨fun _ => ?_, fun h => absurd h (by rw [Go.RE.wanted_none rfl]; decide)⟩
      have e1 : a.tmps[1]? = some (.pointer (some ⟨w.heap.size, 0, none⟩)) := hf 1 (of_decide_eq_true (by kernel_rfl))
      clear hf hx hd
      go_simp
      refine hK _ _ ?_
      exact ⟨hI, f0, f1, f2, f3, f4, f5, f6, f7, f8, f9, fun _ => rfl, f11, f12, f13, f14, f15, f16, f17⟩
    · intro L x a wR K hL hd hf hx hΦ hK
      obtain ⟨hI, f0, f1, f2, f3, f4, f5, f6, f7, f8, f9, f10, f11, f12, f13, f14, f15, f16, f17⟩ := hΦ
      refine ⟨fun _ => ?_, fun h => absurd h (by rw [Go.RE.wanted_none rfl]; decide)⟩
      have d10 := f10 (hd 10 (by kernel_rfl))
      have e31 : a.tmps[31]? = some (x 31) := hx 10 _ 31 rfl rfl (hd 10 (by kernel_rfl))
      rw [d10] at e31
      have kb := (hI.block _ (HK.blk_lt HK1.out)).trans HK1.out
      have xb := HK.blk_cell kb 2
      clear hf hx hd
      go_simp
      refine hK _ _ ?_
      exact ⟨hI, f0, f1, f2, f3, f4, f5, f6, f7, f8, f9, f10, fun _ => rfl, f12, f13, f14, f15, f16, f17⟩
    · intro L x a wR K hL hd hf hx hΦ hK
      obtain ⟨hI, f0, f1, f2, f3, f4, f5, f6, f7, f8, f9, f10, f11, f12, f13, f14, f15, f16, f17⟩ := hΦ
      refine ⟨fun _ => ?_, fun h => absurd h (by rw [Go.RE.wanted_none rfl]; decide)⟩
      have d11 := f11 (hd 11 (by kernel_rfl))
      have e32 : a.tmps[32]? = some (x 32) := hx 11 _ 32 rfl rfl (hd 11 (by kernel_rfl))
      rw [d11] at e32
      clear hf hx hd
      go_simp
      refine hK _ _ ?_
      exact ⟨hI, f0, f1, f2, f3, f4, f5, f6, f7, f8, f9, f10, f11, fun _ => rfl, f13, f14, f15, f16, f17⟩
    · intro L x a wR K hL hd hf hx hΦ hK
      obtain ⟨hI, f0, f1, f2, f3, f4, f5, f6, f7, f8, f9, f10, f11, f12, f13, f14, f15, f16, f17⟩ := hΦ
      refine ⟨fun _ => ?_, fun h => absurd h (by rw [Go.RE.wanted_none rfl]; decide)⟩
      have d12 := f12 (hd 12 (by kernel_rfl))
      have e33 : a.tmps[33]? = some (x 33) := hx 12 _ 33 rfl rfl (hd 12 (by kernel_rfl))
      rw [d12] at e33
      clear hf hx hd
      go_simp
      refine hK _ _ ?_
      exact ⟨hI, f0, f1, f2, f3, f4, f5, f6, f7, f8, f9, f10, f11, f12, fun _ => rfl, f14, f15, f16, f17⟩
    · intro L x a wR K hL hd hf hx hΦ hK
      obtain ⟨hI, f0, f1, f2, f3, f4, f5, f6, f7, f8, f9, f10, f11, f12, f13, f14, f15, f16, f17⟩ := hΦ
      refine ⟨fun _ => ?_, fun h => absurd h (by rw [Go.RE.wanted_none rfl]; decide)⟩
      have d13 := f13 (hd 13 (by kernel_rfl))
      have e34 : a.tmps[34]? = some (x 34) := hx 13 _ 34 rfl rfl (hd 13 (by kernel_rfl))
      rw [d13] at e34
      have cc := (hI.cell (p := ⟨g, o + 1, none⟩) HG.out).trans HC0.out
      clear hf hx hd
      go_simp
      refine hK _ _ ?_
      exact ⟨hI, f0, f1, f2, f3, f4, f5, f6, f7, f8, f9, f10, f11, f12, f13, fun _ => rfl, f15, f16, f17⟩
    · intro L x a wR K hL hd hf hx hΦ hK
      obtain ⟨hI, f0, f1, f2, f3, f4, f5, f6, f7, f8, f9, f10, f11, f12, f13, f14, f15, f16, f17⟩ := hΦ
      refine ⟨fun _ => ?_, fun h => absurd h (by rw [Go.RE.wanted_none rfl]; decide)⟩
      have d9 := f9 (hd 9 (by kernel_rfl))
      have e30 : a.tmps[30]? = some (x 30) := hx 9 _ 30 rfl rfl (hd 9 (by kernel_rfl))
      rw [d9] at e30
      have d14 := f14 (hd 14 (by kernel_rfl))
      have e35 : a.tmps[35]? = some (x 35) := hx 14 _ 35 rfl rfl (hd 14 (by kernel_rfl))
      rw [d14] at e35
      clear hf hx hd
      go_simp
      rw [if_neg (by have := HSZ.out; omega)]
      go_simp
      refine hK _ _ ?_
      exact ⟨hI, f0, f1, f2, f3, f4, f5, f6, f7, f8, f9, f10, f11, f12, f13, f14, fun _ => rfl, f16, f17⟩
    · intro L x a wR K hL hd hf hx hΦ hK
      obtain ⟨hI, f0, f1, f2, f3, f4, f5, f6, f7, f8, f9, f10, f11, f12, f13, f14, f15, f16, f17⟩ := hΦ
      refine ⟨fun _ => ?_, fun h => absurd h (by rw [Go.RE.wanted_none rfl]; decide)⟩
      have d15 := f15 (hd 15 (by kernel_rfl))
      have e36 : a.tmps[36]? = some (x 36) := hx 15 _ 36 rfl rfl (hd 15 (by kernel_rfl))
      rw [d15] at e36
      clear hf hx hd
      go_simp
      rw [if_neg (by have := HSZ.out; omega)]
      go_simp
      refine hK _ _ ?_
      exact ⟨hI, f0, f1, f2, f3, f4, f5, f6, f7, f8, f9, f10, f11, f12, f13, f14, f15, fun _ => rfl, f17⟩
    · intro L x a wR K hL hd hf hx hΦ hK
      obtain ⟨hI, f0, f1, f2, f3, f4, f5, f6, f7, f8, f9, f10, f11, f12, f13, f14, f15, f16, f17⟩ := hΦ
      refine ⟨fun _ => ?_, fun h => absurd h (by rw [Go.RE.wanted_none rfl]; decide)⟩
      have d16 := f16 (hd 16 (by kernel_rfl))
      have e37 : a.tmps[37]? = some (x 37) := hx 16 _ 37 rfl rfl (hd 16 (by kernel_rfl))
      rw [d16] at e37
      clear hf hx hd
      go_simp
      refine hK _ _ ?_
      exact ⟨hI, f0, f1, f2, f3, f4, f5, f6, f7, f8, f9, f10, f11, f12, f13, f14, f15, f16, fun _ => rfl⟩
    · rintro x W ⟨hI, f0, f1, f2, f3, f4, f5, f6, f7, f8, f9, f10, f11, f12, f13, f14, f15, f16, f17⟩
      simp only [Exit.then]
      go_step
      go_meet
      exact ⟨f17 rfl, hI⟩
  case rest =>
    obtain ⟨rfl, hB3⟩ := hcut
    have HB3 := Lib.hid (HB1.out.trans (hB3.mono HB1.out.size))
    clear hB3
    go_wp2_with (fail)
    go_ret
    exact ⟨rfl, HB3.out⟩
set_option maxRecDepth 100000 in
set_option maxHeartbeats 4000000 in
theorem full_bin (op : Nat) (ho : binO op = true) (nm : ByteArray) (args : List Tm) (f0 f1 : Fm) (h0 : FullOk f0) (h1 : FullOk f1) : FullOk (.mk op nm args [f0, f1]) := by
  have hop : op = 4 ∨ op = 5 ∨ op = 6 ∨ op = 7 ∨ op = 14 := by simpa [binO] using ho
  have ho1 : 3 ≤ op := by omega
  have ho2 : op ≤ 14 := by omega
  intro w a s ha hs hN
  simp only [FR.Fm.op, FR.Fm.name, FR.Fm.args, FR.Fm.subs] at ha hs ⊢
  obtain ⟨aa, an, ac⟩ := a
  obtain ⟨sa, sn, sc⟩ := s
  simp only [SL.v]
  have hl := hs.len
  simp only [List.length_cons, List.length_nil, Nat.zero_add, Nat.reduceAdd] at hl
  subst hl
  obtain ⟨g, o, rfl⟩ := IsFs.pos hs (by decide)
  have hsg := fun (W : World) => sign_call W op ho1 ho2
  obtain ⟨so, hso⟩ : ∃ so, so = mkS (opS op) := ⟨_, rfl⟩
  have hzo : so.size ≤ 10 := by rw [hso, mk_size]; rcases (by omega : op = 3 ∨ op = 4 ∨ op = 5 ∨ op = 6 ∨ op = 7 ∨ op = 8 ∨ op = 9 ∨ op = 10 ∨ op = 11 ∨ op = 12 ∨ op = 13 ∨ op = 14) with rfl | rfl | rfl | rfl | rfl | rfl | rfl | rfl | rfl | rfl | rfl | rfl <;> decide
  rw [← hso] at hsg
  have HSG := Lib.hid hsg
  have e : mkS (fullF (.mk op nm args [f0, f1])) = ((((((⟨#[40]⟩ ++ mkS (fullF f0)) ++ ⟨#[32]⟩) ++ mkS (opS op)) ++ ⟨#[32]⟩) ++ mkS (fullF f1)) ++ ⟨#[41]⟩) := by
    have n1 : op ≠ 1 := by omega
    have n2 : op ≠ 2 := by omega
    have n3 : op ≠ 15 := by omega
    have n4 : op ≠ 16 := by omega
    apply ByteArray.ext
    simp [fullF, fullFs, bodyF, n1, n2, n3, n4, ho, mkS, ByteArray.data_append]
  have hlen : (mkS (fullF (.mk op nm args [f0, f1]))).size ≤ 1000000 := by rw [mk_size]; exact hN
  rw [e] at hlen
  simp only [sz_app, mk_size] at hlen
  obtain ⟨u0, d0, c00, c01, c02, c03, hu0, hd0, _⟩ := fs_at hs (k := 0) rfl
  have hc0 := fun (W : World) (hW : Below w.heap.size w W) => h0 W u0 d0 (hu0.turn (sn_up hW)) (hd0.turn (sn_up hW)) (by omega)
  obtain ⟨x0, hx0⟩ : ∃ x0, x0 = mkS (fullF f0) := ⟨_, rfl⟩
  have hz0 : x0.size = (fullF f0).length := by rw [hx0, mk_size]
  rw [← hx0] at hc0 e
  obtain ⟨o0, m0, b0, t0⟩ := f0
  obtain ⟨ua0, un0, uc0⟩ := u0
  obtain ⟨da0, dn0, dc0⟩ := d0
  simp only [FR.Fm.op, FR.Fm.name, SL.v, Nat.zero_mul, Nat.one_mul, Nat.add_zero, Nat.add_assoc, Nat.reduceAdd] at c00 c01 c02 c03 hc0
  have HSUB0 := Lib.hid hc0
  have HC00 : Hid (∀ W, Below w.heap.size w W → W.cell? ⟨g, o, none⟩ = _) := Lib.hid fun W hW => (hW.cell (p := ⟨g, o, none⟩) (World.block_lt_of_cell? w ⟨g, o, none⟩ c00)).trans c00
  have HC01 : Hid (∀ W, Below w.heap.size w W → W.cell? ⟨g, o + 1, none⟩ = _) := Lib.hid fun W hW => (hW.cell (p := ⟨g, o + 1, none⟩) (World.block_lt_of_cell? w ⟨g, o, none⟩ c00)).trans c01
  have HC02 : Hid (∀ W, Below w.heap.size w W → W.cell? ⟨g, o + 2, none⟩ = _) := Lib.hid fun W hW => (hW.cell (p := ⟨g, o + 2, none⟩) (World.block_lt_of_cell? w ⟨g, o, none⟩ c00)).trans c02
  have HC03 : Hid (∀ W, Below w.heap.size w W → W.cell? ⟨g, o + 3, none⟩ = _) := Lib.hid fun W hW => (hW.cell (p := ⟨g, o + 3, none⟩) (World.block_lt_of_cell? w ⟨g, o, none⟩ c00)).trans c03
  obtain ⟨u1, d1, c10, c11, c12, c13, hu1, hd1, _⟩ := fs_at hs (k := 1) rfl
  have hc1 := fun (W : World) (hW : Below w.heap.size w W) => h1 W u1 d1 (hu1.turn (sn_up hW)) (hd1.turn (sn_up hW)) (by omega)
  obtain ⟨x1, hx1⟩ : ∃ x1, x1 = mkS (fullF f1) := ⟨_, rfl⟩
  have hz1 : x1.size = (fullF f1).length := by rw [hx1, mk_size]
  rw [← hx1] at hc1 e
  obtain ⟨o1, m1, b1, t1⟩ := f1
  obtain ⟨ua1, un1, uc1⟩ := u1
  obtain ⟨da1, dn1, dc1⟩ := d1
  simp only [FR.Fm.op, FR.Fm.name, SL.v, Nat.zero_mul, Nat.one_mul, Nat.add_zero, Nat.add_assoc, Nat.reduceAdd] at c10 c11 c12 c13 hc1
  have HSUB1 := Lib.hid hc1
  have HC10 : Hid (∀ W, Below w.heap.size w W → W.cell? ⟨g, o + 4, none⟩ = _) := Lib.hid fun W hW => (hW.cell (p := ⟨g, o + 4, none⟩) (World.block_lt_of_cell? w ⟨g, o + 4, none⟩ c10)).trans c10
  have HC11 : Hid (∀ W, Below w.heap.size w W → W.cell? ⟨g, o + 5, none⟩ = _) := Lib.hid fun W hW => (hW.cell (p := ⟨g, o + 5, none⟩) (World.block_lt_of_cell? w ⟨g, o + 4, none⟩ c10)).trans c11
  have HC12 : Hid (∀ W, Below w.heap.size w W → W.cell? ⟨g, o + 6, none⟩ = _) := Lib.hid fun W hW => (hW.cell (p := ⟨g, o + 6, none⟩) (World.block_lt_of_cell? w ⟨g, o + 4, none⟩ c10)).trans c12
  have HC13 : Hid (∀ W, Below w.heap.size w W → W.cell? ⟨g, o + 7, none⟩ = _) := Lib.hid fun W hW => (hW.cell (p := ⟨g, o + 7, none⟩) (World.block_lt_of_cell? w ⟨g, o + 4, none⟩ c10)).trans c13
  have HSZ := Lib.hid (show x0.size + x1.size + so.size ≤ 1000020 by omega)
  rw [← hso] at e
  rw [e]
  obtain ⟨b4, hb4⟩ : ∃ b : Bool, ((op : Int) == 4) = b := ⟨_, rfl⟩
  obtain ⟨b5, hb5⟩ : ∃ b : Bool, ((op : Int) == 5) = b := ⟨_, rfl⟩
  obtain ⟨b6, hb6⟩ : ∃ b : Bool, ((op : Int) == 6) = b := ⟨_, rfl⟩
  obtain ⟨b7, hb7⟩ : ∃ b : Bool, ((op : Int) == 7) = b := ⟨_, rfl⟩
  obtain ⟨b14, hb14⟩ : ∃ b : Bool, ((op : Int) == 14) = b := ⟨_, rfl⟩
  have HOP := Lib.hid (show (b4 || b5 || b6 || b7 || b14) = true by
    rw [← hb4, ← hb5, ← hb6, ← hb7, ← hb14]
    rcases hop with rfl | rfl | rfl | rfl | rfl <;> rfl)
  clear ha hs hN e hlen hso hzo
  clear hc0 c00 c01 c02 c03 hu0 hd0 hx0 hz0 h0
  clear hc1 c10 c11 c12 c13 hu1 hd1 hx1 hz1 h1
  have q1 : ((op : Int) == 1) = false := by simp; omega
  have q2 : ((op : Int) == 2) = false := by simp; omega
  have q15 : ((op : Int) == 15) = false := by simp; omega
  have q16 : ((op : Int) == 16) = false := by simp; omega
  clear hop ho ho1 ho2 hsg
  go_enter Tryd.func12, Tryd.ntmps12
  go_upto_region 1 with (fail)
  obtain ⟨w1, hw1⟩ : ∃ w1, w1 = w.alloc (.cells #[.int .u8 (op : Int), .string nm, .slice aa an ac, .slice (some ⟨g, o, none⟩) 2 sc] 25) := ⟨_, rfl⟩
  have hB1 : Below w.heap.size w w1 := by rw [hw1]; exact bl_al9 _
  have k1 : w1.heap[w.heap.size]? = some (.cells #[.int .u8 (op : Int), .string nm, .slice aa an ac, .slice (some ⟨g, o, none⟩) 2 sc] 25 (0, 0)) := by rw [hw1]; exact HK.blk_new _ _
  rw [← hw1]
  have bx0 := HK.blk_cell k1 0
  have bx1 := HK.blk_cell k1 1
  have bx2 := HK.blk_cell k1 2
  have bx3 := HK.blk_cell k1 3
  have HB1 := Lib.hid hB1
  have HK1 := Lib.hid k1
  clear k1 hw1 hB1
  go_upto_if 38 with (fail)
  go_cut [38] from 38 to 43 (fun v wx => v = .bool true ∧ w1 = wx)
  case first =>
    rcases b4 with _ | _ <;> rcases b5 with _ | _ <;> rcases b6 with _ | _ <;> rcases b7 with _ | _ <;> rcases b14 with _ | _
    all_goals first | (exfalso; exact absurd HOP.out (by decide)) | (go_wp2_with (fail); go_meet; exact ⟨rfl, rfl⟩)
  case rest =>
  obtain ⟨rfl, hwx⟩ := hcut
  obtain rfl := hwx
  go_upto_region 15 with (fail)
  go_cut [2] from 2 to 62 (fun v wx => v = .string ((((((⟨#[40]⟩ ++ x0) ++ ⟨#[32]⟩) ++ so) ++ ⟨#[32]⟩) ++ x1) ++ ⟨#[41]⟩) ∧ Below w1.heap.size w1 wx)
  case first =>
    refine Go.RE.wp_region_eachg [44, 45, 46, 47, 48, 49, 50, 51, 52, 53, 54, 55, 56, 57, 58, 59, 60, 61, 62, 2] (fun L x W => (Below w1.heap.size w1 W) ∧ (L 0 = true → x 44 = .pointer (some ⟨w.heap.size, 3, none⟩)) ∧ (L 1 = true → x 45 = .slice (some ⟨g, o, none⟩) 2 sc) ∧ (L 2 = true → x 46 = .pointer (some ⟨g, o, none⟩)) ∧ (L 3 = true → x 47 = .agg #[.int .u8 (o0 : Int), .string m0, .slice ua0 un0 uc0, .slice da0 dn0 dc0]) ∧ (L 4 = true → x 48 = .string x0) ∧ (L 5 = true → x 49 = .string (⟨#[40]⟩ ++ x0)) ∧ (L 6 = true → x 50 = .string ((⟨#[40]⟩ ++ x0) ++ ⟨#[32]⟩)) ∧ (L 7 = true → x 51 = .pointer (some ⟨w.heap.size, 0, none⟩)) ∧ (L 8 = true → x 52 = .int .u8 (op : Int)) ∧ (L 9 = true → x 53 = .string so) ∧ (L 10 = true → x 54 = .string (((⟨#[40]⟩ ++ x0) ++ ⟨#[32]⟩) ++ so)) ∧ (L 11 = true → x 55 = .string ((((⟨#[40]⟩ ++ x0) ++ ⟨#[32]⟩) ++ so) ++ ⟨#[32]⟩)) ∧ (L 12 = true → x 56 = .pointer (some ⟨w.heap.size, 3, none⟩)) ∧ (L 13 = true → x 57 = .slice (some ⟨g, o, none⟩) 2 sc) ∧ (L 14 = true → x 58 = .pointer (some ⟨g, o + 4, none⟩)) ∧ (L 15 = true → x 59 = .agg #[.int .u8 (o1 : Int), .string m1, .slice ua1 un1 uc1, .slice da1 dn1 dc1]) ∧ (L 16 = true → x 60 = .string x1) ∧ (L 17 = true → x 61 = .string (((((⟨#[40]⟩ ++ x0) ++ ⟨#[32]⟩) ++ so) ++ ⟨#[32]⟩) ++ x1)) ∧ (L 18 = true → x 62 = .string ((((((⟨#[40]⟩ ++ x0) ++ ⟨#[32]⟩) ++ so) ++ ⟨#[32]⟩) ++ x1) ++ ⟨#[41]⟩)) ∧ (L 19 = true → x 2 = .string ((((((⟨#[40]⟩ ++ x0) ++ ⟨#[32]⟩) ++ so) ++ ⟨#[32]⟩) ++ x1) ++ ⟨#[41]⟩))) (by kernel_rfl) (by kernel_rfl) (by kernel_rfl) ?_ ((Go.RE.Each.cons ?_ (Go.RE.Each.cons ?_ (Go.RE.Each.cons ?_ (Go.RE.Each.cons ?_ (Go.RE.Each.cons ?_ (Go.RE.Each.cons ?_ (Go.RE.Each.cons ?_ (Go.RE.Each.cons ?_ (Go.RE.Each.cons ?_ (Go.RE.Each.cons ?_ (Go.RE.Each.cons ?_ (Go.RE.Each.cons ?_ (Go.RE.Each.cons ?_ (Go.RE.Each.cons ?_ (Go.RE.Each.cons ?_ (Go.RE.Each.cons ?_ (Go.RE.Each.cons ?_ (Go.RE.Each.cons ?_ (Go.RE.Each.cons ?_ (Go.RE.Each.cons ?_ Go.RE.Each.nil))))))))))))))))))))) ?_
    · exact fun x => ⟨bl_dr9 (Below.refl _ _), nofun, nofun, nofun, nofun, nofun, nofun, nofun, nofun, nofun, nofun, nofun, nofun, nofun, nofun, nofun, nofun, nofun, nofun, nofun, nofun⟩
    · intro L x a wR K hL hd hf hx hΦ hK
      obtain ⟨hI, f0, f1, f2, f3, f4, f5, f6, f7, f8, f9, f10, f11, f12, f13, f14, f15, f16, f17, f18, f19⟩ := hΦ
      refine ⟨fun _ => ?_, fun h => absurd h (by rw [Go.RE.wanted_none rfl]; decide)⟩
      have e1 : a.tmps[1]? = some (.pointer (some ⟨w.heap.size, 0, none⟩)) := hf 1 (of_decide_eq_true (by kernel_rfl))
      clear hf hx hd
      go_simp
      refine hK _ _ ?_
      exact ⟨hI, fun _ => rfl, f1, f2, f3, f4, f5, f6, f7, f8, f9, f10, f11, f12, f13, f14, f15, f16, f17, f18, f19⟩
    · intro L x a wR K hL hd hf hx hΦ hK
      obtain ⟨hI, f0, f1, f2, f3, f4, f5, f6, f7, f8, f9, f10, f11, f12, f13, f14, f15, f16, f17, f18, f19⟩ := hΦ
      refine ⟨fun _ => ?_, fun h => absurd h (by rw [Go.RE.wanted_none rfl]; decide)⟩
      have d0 := f0 (hd 0 (by kernel_rfl))
      have e44 : a.tmps[44]? = some (x 44) := hx 0 _ 44 rfl rfl (hd 0 (by kernel_rfl))
      rw [d0] at e44
      have kb := (hI.block _ (HK.blk_lt HK1.out)).trans HK1.out
      have xb := HK.blk_cell kb 3
      clear hf hx hd
      go_simp
      refine hK _ _ ?_
      exact ⟨hI, f0, fun _ => rfl, f2, f3, f4, f5, f6, f7, f8, f9, f10, f11, f12, f13, f14, f15, f16, f17, f18, f19⟩
    · intro L x a wR K hL hd hf hx hΦ hK
      obtain ⟨hI, f0, f1, f2, f3, f4, f5, f6, f7, f8, f9, f10, f11, f12, f13, f14, f15, f16, f17, f18, f19⟩ := hΦ
      refine ⟨fun _ => ?_, fun h => absurd h (by rw [Go.RE.wanted_none rfl]; decide)⟩
      have d1 := f1 (hd 1 (by kernel_rfl))
      have e45 : a.tmps[45]? = some (x 45) := hx 1 _ 45 rfl rfl (hd 1 (by kernel_rfl))
      rw [d1] at e45
      clear hf hx hd
      go_simp
      refine hK _ _ ?_
      exact ⟨hI, f0, f1, fun _ => rfl, f3, f4, f5, f6, f7, f8, f9, f10, f11, f12, f13, f14, f15, f16, f17, f18, f19⟩
    · intro L x a wR K hL hd hf hx hΦ hK
      obtain ⟨hI, f0, f1, f2, f3, f4, f5, f6, f7, f8, f9, f10, f11, f12, f13, f14, f15, f16, f17, f18, f19⟩ := hΦ
      refine ⟨fun _ => ?_, fun h => absurd h (by rw [Go.RE.wanted_none rfl]; decide)⟩
      have d2 := f2 (hd 2 (by kernel_rfl))
      have e46 : a.tmps[46]? = some (x 46) := hx 2 _ 46 rfl rfl (hd 2 (by kernel_rfl))
      rw [d2] at e46
      have hb9 := HB1.out.trans (hI.mono HB1.out.size)
      have cc0 := HC00.out _ hb9
      have cc1 := HC01.out _ hb9
      have cc2 := HC02.out _ hb9
      have cc3 := HC03.out _ hb9
      clear hf hx hd
      go_simp
      refine hK _ _ ?_
      exact ⟨hI, f0, f1, f2, fun _ => rfl, f4, f5, f6, f7, f8, f9, f10, f11, f12, f13, f14, f15, f16, f17, f18, f19⟩
    · intro L x a wR K hL hd hf hx hΦ hK
      obtain ⟨hI, f0, f1, f2, f3, f4, f5, f6, f7, f8, f9, f10, f11, f12, f13, f14, f15, f16, f17, f18, f19⟩ := hΦ
      refine ⟨fun _ => ?_, fun h => absurd h (by rw [Go.RE.wanted_none rfl]; decide)⟩
      have d3 := f3 (hd 3 (by kernel_rfl))
      have e47 : a.tmps[47]? = some (x 47) := hx 3 _ 47 rfl rfl (hd 3 (by kernel_rfl))
      rw [d3] at e47
      clear hf hx hd
      go_simp
      go_at_call 12
      with_reducible refine (HSUB0.out _ (HB1.out.trans (hI.mono HB1.out.size))).mono ?_
      rintro e w' ⟨rfl, hB8⟩
      simp only
      refine hK _ _ ?_
      exact ⟨hI.trans (hB8.mono hI.size), f0, f1, f2, f3, fun _ => rfl, f5, f6, f7, f8, f9, f10, f11, f12, f13, f14, f15, f16, f17, f18, f19⟩
    · intro L x a wR K hL hd hf hx hΦ hK
      obtain ⟨hI, f0, f1, f2, f3, f4, f5, f6, f7, f8, f9, f10, f11, f12, f13, f14, f15, f16, f17, f18, f19⟩ := hΦ
      refine ⟨fun _ => ?_, fun h => absurd h (by rw [Go.RE.wanted_none rfl]; decide)⟩
      have d4 := f4 (hd 4 (by kernel_rfl))
      have e48 : a.tmps[48]? = some (x 48) := hx 4 _ 48 rfl rfl (hd 4 (by kernel_rfl))
      rw [d4] at e48
      clear hf hx hd
      go_simp
      rw [if_neg (by have := HSZ.out; omega)]
      go_simp
      refine hK _ _ ?_
      exact ⟨hI, f0, f1, f2, f3, f4, fun _ => rfl, f6, f7, f8, f9, f10, f11, f12, f13, f14, f15, f16, f17, f18, f19⟩
    · intro L x a wR K hL hd hf hx hΦ hK
      obtain ⟨hI, f0, f1, f2, f3, f4, f5, f6, f7, f8, f9, f10, f11, f12, f13, f14, f15, f16, f17, f18, f19⟩ := hΦ
      refine ⟨fun _ => ?_, fun h => absurd h (by rw [Go.RE.wanted_none rfl]; decide)⟩
      have d5 := f5 (hd 5 (by kernel_rfl))
      have e49 : a.tmps[49]? = some (x 49) := hx 5 _ 49 rfl rfl (hd 5 (by kernel_rfl))
      rw [d5] at e49
      clear hf hx hd
      go_simp
      rw [if_neg (by have := HSZ.out; omega)]
      go_simp
      refine hK _ _ ?_
      exact ⟨hI, f0, f1, f2, f3, f4, f5, fun _ => rfl, f7, f8, f9, f10, f11, f12, f13, f14, f15, f16, f17, f18, f19⟩
    · intro L x a wR K hL hd hf hx hΦ hK
      obtain ⟨hI, f0, f1, f2, f3, f4, f5, f6, f7, f8, f9, f10, f11, f12, f13, f14, f15, f16, f17, f18, f19⟩ := hΦ
      refine ⟨fun _ => ?_, fun h => absurd h (by rw [Go.RE.wanted_none rfl]; decide)⟩
      have e1 : a.tmps[1]? = some (.pointer (some ⟨w.heap.size, 0, none⟩)) := hf 1 (of_decide_eq_true (by kernel_rfl))
      clear hf hx hd
      go_simp
      refine hK _ _ ?_
      exact ⟨hI, f0, f1, f2, f3, f4, f5, f6, fun _ => rfl, f8, f9, f10, f11, f12, f13, f14, f15, f16, f17, f18, f19⟩
    · intro L x a wR K hL hd hf hx hΦ hK
      obtain ⟨hI, f0, f1, f2, f3, f4, f5, f6, f7, f8, f9, f10, f11, f12, f13, f14, f15, f16, f17, f18, f19⟩ := hΦ
      refine ⟨fun _ => ?_, fun h => absurd h (by rw [Go.RE.wanted_none rfl]; decide)⟩
      have d7 := f7 (hd 7 (by kernel_rfl))
      have e51 : a.tmps[51]? = some (x 51) := hx 7 _ 51 rfl rfl (hd 7 (by kernel_rfl))
      rw [d7] at e51
      have kb := (hI.block _ (HK.blk_lt HK1.out)).trans HK1.out
      have xb := HK.blk_cell kb 0
      clear hf hx hd
      go_simp
      refine hK _ _ ?_
      exact ⟨hI, f0, f1, f2, f3, f4, f5, f6, f7, fun _ => rfl, f9, f10, f11, f12, f13, f14, f15, f16, f17, f18, f19⟩
    · intro L x a wR K hL hd hf hx hΦ hK
      obtain ⟨hI, f0, f1, f2, f3, f4, f5, f6, f7, f8, f9, f10, f11, f12, f13, f14, f15, f16, f17, f18, f19⟩ := hΦ
      refine ⟨fun _ => ?_, fun h => absurd h (by rw [Go.RE.wanted_none rfl]; decide)⟩
      have d8 := f8 (hd 8 (by kernel_rfl))
      have e52 : a.tmps[52]? = some (x 52) := hx 8 _ 52 rfl rfl (hd 8 (by kernel_rfl))
      rw [d8] at e52
      clear hf hx hd
      go_simp
      go_at_call 18
      with_reducible refine (HSG.out _).mono ?_
      rintro e w' ⟨rfl, hB8⟩
      simp only
      refine hK _ _ ?_
      exact ⟨hI.trans (hB8.mono hI.size), f0, f1, f2, f3, f4, f5, f6, f7, f8, fun _ => rfl, f10, f11, f12, f13, f14, f15, f16, f17, f18, f19⟩
    · intro L x a wR K hL hd hf hx hΦ hK
      obtain ⟨hI, f0, f1, f2, f3, f4, f5, f6, f7, f8, f9, f10, f11, f12, f13, f14, f15, f16, f17, f18, f19⟩ := hΦ
      refine ⟨fun _ => ?_, fun h => absurd h (by rw [Go.RE.wanted_none rfl]; decide)⟩
      have d6 := f6 (hd 6 (by kernel_rfl))
      have e50 : a.tmps[50]? = some (x 50) := hx 6 _ 50 rfl rfl (hd 6 (by kernel_rfl))
      rw [d6] at e50
      have d9 := f9 (hd 9 (by kernel_rfl))
      have e53 : a.tmps[53]? = some (x 53) := hx 9 _ 53 rfl rfl (hd 9 (by kernel_rfl))
      rw [d9] at e53
      clear hf hx hd
      go_simp
      rw [if_neg (by have := HSZ.out; omega)]
      go_simp
      refine hK _ _ ?_
      exact ⟨hI, f0, f1, f2, f3, f4, f5, f6, f7, f8, f9, fun _ => rfl, f11, f12, f13, f14, f15, f16, f17, f18, f19⟩
    · intro L x a wR K hL hd hf hx hΦ hK
      obtain ⟨hI, f0, f1, f2, f3, f4, f5, f6, f7, f8, f9, f10, f11, f12, f13, f14, f15, f16, f17, f18, f19⟩ := hΦ
      refine ⟨fun _ => ?_, fun h => absurd h (by rw [Go.RE.wanted_none rfl]; decide)⟩
      have d10 := f10 (hd 10 (by kernel_rfl))
      have e54 : a.tmps[54]? = some (x 54) := hx 10 _ 54 rfl rfl (hd 10 (by kernel_rfl))
      rw [d10] at e54
      clear hf hx hd
      go_simp
      rw [if_neg (by have := HSZ.out; omega)]
      go_simp
      refine hK _ _ ?_
      exact ⟨hI, f0, f1, f2, f3, f4, f5, f6, f7, f8, f9, f10, fun _ => rfl, f12, f13, f14, f15, f16, f17, f18, f19⟩
    · intro L x a wR K hL hd hf hx hΦ hK
      obtain ⟨hI, f0, f1, f2, f3, f4, f5, f6, f7, f8, f9, f10, f11, f12, f13, f14, f15, f16, f17, f18, f19⟩ := hΦ
      refine ⟨fun _ => ?_, fun h => absurd h (by rw [Go.RE.wanted_none rfl]; decide)⟩
      have e1 : a.tmps[1]? = some (.pointer (some ⟨w.heap.size, 0, none⟩)) := hf 1 (of_decide_eq_true (by kernel_rfl))
      clear hf hx hd
      go_simp
      refine hK _ _ ?_
      exact ⟨hI, f0, f1, f2, f3, f4, f5, f6, f7, f8, f9, f10, f11, fun _ => rfl, f13, f14, f15, f16, f17, f18, f19⟩
    · intro L x a wR K hL hd hf hx hΦ hK
      obtain ⟨hI, f0, f1, f2, f3, f4, f5, f6, f7, f8, f9, f10, f11, f12, f13, f14, f15, f16, f17, f18, f19⟩ := hΦ
      refine ⟨fun _ => ?_, fun h => absurd h (by rw [Go.RE.wanted_none rfl]; decide)⟩
      have d12 := f12 (hd 12 (by kernel_rfl))
      have e56 : a.tmps[56]? = some (x 56) := hx 12 _ 56 rfl rfl (hd 12 (by kernel_rfl))
      rw [d12] at e56
      have kb := (hI.block _ (HK.blk_lt HK1.out)).trans HK1.out
      have xb := HK.blk_cell kb 3
      clear hf hx hd
      go_simp
      refine hK _ _ ?_
      exact ⟨hI, f0, f1, f2, f3, f4, f5, f6, f7, f8, f9, f10, f11, f12, fun _ => rfl, f14, f15, f16, f17, f18, f19⟩
    · intro L x a wR K hL hd hf hx hΦ hK
      obtain ⟨hI, f0, f1, f2, f3, f4, f5, f6, f7, f8, f9, f10, f11, f12, f13, f14, f15, f16, f17, f18, f19⟩ := hΦ
      refine ⟨fun _ => ?_, fun h => absurd h (by rw [Go.RE.wanted_none rfl]; decide)⟩
      have d13 := f13 (hd 13 (by kernel_rfl))
      have e57 : a.tmps[57]? = some (x 57) := hx 13 _ 57 rfl rfl (hd 13 (by kernel_rfl))
      rw [d13] at e57
      clear hf hx hd
      go_simp
      refine hK _ _ ?_
      exact ⟨hI, f0, f1, f2, f3, f4, f5, f6, f7, f8, f9, f10, f11, f12, f13, fun _ => rfl, f15, f16, f17, f18, f19⟩
    · intro L x a wR K hL hd hf hx hΦ hK
      obtain ⟨hI, f0, f1, f2, f3, f4, f5, f6, f7, f8, f9, f10, f11, f12, f13, f14, f15, f16, f17, f18, f19⟩ := hΦ
      refine ⟨fun _ => ?_, fun h => absurd h (by rw [Go.RE.wanted_none rfl]; decide)⟩
      have d14 := f14 (hd 14 (by kernel_rfl))
      have e58 : a.tmps[58]? = some (x 58) := hx 14 _ 58 rfl rfl (hd 14 (by kernel_rfl))
      rw [d14] at e58
      have hb9 := HB1.out.trans (hI.mono HB1.out.size)
      have cc0 := HC10.out _ hb9
      have cc1 := HC11.out _ hb9
      have cc2 := HC12.out _ hb9
      have cc3 := HC13.out _ hb9
      clear hf hx hd
      go_simp
      refine hK _ _ ?_
      exact ⟨hI, f0, f1, f2, f3, f4, f5, f6, f7, f8, f9, f10, f11, f12, f13, f14, fun _ => rfl, f16, f17, f18, f19⟩
    · intro L x a wR K hL hd hf hx hΦ hK
      obtain ⟨hI, f0, f1, f2, f3, f4, f5, f6, f7, f8, f9, f10, f11, f12, f13, f14, f15, f16, f17, f18, f19⟩ := hΦ
      refine ⟨fun _ => ?_, fun h => absurd h (by rw [Go.RE.wanted_none rfl]; decide)⟩
      have d15 := f15 (hd 15 (by kernel_rfl))
      have e59 : a.tmps[59]? = some (x 59) := hx 15 _ 59 rfl rfl (hd 15 (by kernel_rfl))
      rw [d15] at e59
      clear hf hx hd
      go_simp
      go_at_call 12
      with_reducible refine (HSUB1.out _ (HB1.out.trans (hI.mono HB1.out.size))).mono ?_
      rintro e w' ⟨rfl, hB8⟩
      simp only
      refine hK _ _ ?_
      exact ⟨hI.trans (hB8.mono hI.size), f0, f1, f2, f3, f4, f5, f6, f7, f8, f9, f10, f11, f12, f13, f14, f15, fun _ => rfl, f17, f18, f19⟩
    · intro L x a wR K hL hd hf hx hΦ hK
      obtain ⟨hI, f0, f1, f2, f3, f4, f5, f6, f7, f8, f9, f10, f11, f12, f13, f14, f15, f16, f17, f18, f19⟩ := hΦ
      refine ⟨fun _ => ?_, fun h => absurd h (by rw [Go.RE.wanted_none rfl]; decide)⟩
      have d11 := f11 (hd 11 (by kernel_rfl))
      have e55 : a.tmps[55]? = some (x 55) := hx 11 _ 55 rfl rfl (hd 11 (by kernel_rfl))
      rw [d11] at e55
      have d16 := f16 (hd 16 (by kernel_rfl))
      have e60 : a.tmps[60]? = some (x 60) := hx 16 _ 60 rfl rfl (hd 16 (by kernel_rfl))
      rw [d16] at e60
      clear hf hx hd
      go_simp
      rw [if_neg (by have := HSZ.out; omega)]
      go_simp
      refine hK _ _ ?_
      exact ⟨hI, f0, f1, f2, f3, f4, f5, f6, f7, f8, f9, f10, f11, f12, f13, f14, f15, f16, fun _ => rfl, f18, f19⟩
    · intro L x a wR K hL hd hf hx hΦ hK
      obtain ⟨hI, f0, f1, f2, f3, f4, f5, f6, f7, f8, f9, f10, f11, f12, f13, f14, f15, f16, f17, f18, f19⟩ := hΦ
      refine ⟨fun _ => ?_, fun h => absurd h (by rw [Go.RE.wanted_none rfl]; decide)⟩
      have d17 := f17 (hd 17 (by kernel_rfl))
      have e61 : a.tmps[61]? = some (x 61) := hx 17 _ 61 rfl rfl (hd 17 (by kernel_rfl))
      rw [d17] at e61
      clear hf hx hd
      go_simp
      rw [if_neg (by have := HSZ.out; omega)]
      go_simp
      refine hK _ _ ?_
      exact ⟨hI, f0, f1, f2, f3, f4, f5, f6, f7, f8, f9, f10, f11, f12, f13, f14, f15, f16, f17, fun _ => rfl, f19⟩
    · intro L x a wR K hL hd hf hx hΦ hK
      obtain ⟨hI, f0, f1, f2, f3, f4, f5, f6, f7, f8, f9, f10, f11, f12, f13, f14, f15, f16, f17, f18, f19⟩ := hΦ
      refine ⟨fun _ => ?_, fun h => absurd h (by rw [Go.RE.wanted_none rfl]; decide)⟩
      have d18 := f18 (hd 18 (by kernel_rfl))
      have e62 : a.tmps[62]? = some (x 62) := hx 18 _ 62 rfl rfl (hd 18 (by kernel_rfl))
      rw [d18] at e62
      clear hf hx hd
      go_simp
      refine hK _ _ ?_
      exact ⟨hI, f0, f1, f2, f3, f4, f5, f6, f7, f8, f9, f10, f11, f12, f13, f14, f15, f16, f17, f18, fun _ => rfl⟩
    · rintro x W ⟨hI, f0, f1, f2, f3, f4, f5, f6, f7, f8, f9, f10, f11, f12, f13, f14, f15, f16, f17, f18, f19⟩
      simp only [Exit.then]
      go_step
      go_meet
      exact ⟨f19 rfl, hI⟩
  case rest =>
    obtain ⟨rfl, hB3⟩ := hcut
    have HB3 := Lib.hid (HB1.out.trans (hB3.mono HB1.out.size))
    clear hB3
    go_wp2_with (fail)
    go_ret
    exact ⟨rfl, HB3.out⟩
set_option maxRecDepth 100000 in
set_option maxHeartbeats 4000000 in
theorem full_quant (op : Nat) (hop : op = 8 ∨ op = 9) (nm : ByteArray) (args : List Tm) (f0 : Fm) (h0 : FullOk f0) : FullOk (.mk op nm args [f0]) := by
  have ho1 : 3 ≤ op := by omega
  have ho2 : op ≤ 14 := by omega
  intro w a s ha hs hN
  simp only [FR.Fm.op, FR.Fm.name, FR.Fm.args, FR.Fm.subs] at ha hs ⊢
  obtain ⟨aa, an, ac⟩ := a
  obtain ⟨sa, sn, sc⟩ := s
  simp only [SL.v]
  have hl := hs.len
  simp only [List.length_cons, List.length_nil, Nat.zero_add, Nat.reduceAdd] at hl
  subst hl
  obtain ⟨g, o, rfl⟩ := IsFs.pos hs (by decide)
  have hsg := fun (W : World) => sign_call W op ho1 ho2
  obtain ⟨so, hso⟩ : ∃ so, so = mkS (opS op) := ⟨_, rfl⟩
  have hzo : so.size ≤ 10 := by rw [hso, mk_size]; rcases (by omega : op = 3 ∨ op = 4 ∨ op = 5 ∨ op = 6 ∨ op = 7 ∨ op = 8 ∨ op = 9 ∨ op = 10 ∨ op = 11 ∨ op = 12 ∨ op = 13 ∨ op = 14) with rfl | rfl | rfl | rfl | rfl | rfl | rfl | rfl | rfl | rfl | rfl | rfl <;> decide
  rw [← hso] at hsg
  have HSG := Lib.hid hsg
  have e : mkS (fullF (.mk op nm args [f0])) = ((((mkS (opS op) ++ ⟨#[32]⟩) ++ nm) ++ ⟨#[32]⟩) ++ mkS (fullF f0)) := by
    have n1 : op ≠ 1 := by omega
    have n2 : op ≠ 2 := by omega
    have n3 : op ≠ 15 := by omega
    have n4 : op ≠ 16 := by omega
    have n5 : binO op = false := by simp only [binO, decide_eq_false_iff_not]; omega
    have n6 : op = 8 ∨ op = 9 := hop
    apply ByteArray.ext
    simp [fullF, fullFs, bodyF, n1, n2, n3, n4, n5, n6, mkS, ByteArray.data_append] <;> rfl
  have hlen : (mkS (fullF (.mk op nm args [f0]))).size ≤ 1000000 := by rw [mk_size]; exact hN
  rw [e] at hlen
  simp only [sz_app, mk_size] at hlen
  obtain ⟨u0, d0, c00, c01, c02, c03, hu0, hd0, _⟩ := fs_at hs (k := 0) rfl
  have hc0 := fun (W : World) (hW : Below w.heap.size w W) => h0 W u0 d0 (hu0.turn (sn_up hW)) (hd0.turn (sn_up hW)) (by omega)
  obtain ⟨x0, hx0⟩ : ∃ x0, x0 = mkS (fullF f0) := ⟨_, rfl⟩
  have hz0 : x0.size = (fullF f0).length := by rw [hx0, mk_size]
  rw [← hx0] at hc0 e
  obtain ⟨o0, m0, b0, t0⟩ := f0
  obtain ⟨ua0, un0, uc0⟩ := u0
  obtain ⟨da0, dn0, dc0⟩ := d0
  simp only [FR.Fm.op, FR.Fm.name, SL.v, Nat.zero_mul, Nat.one_mul, Nat.add_zero, Nat.add_assoc, Nat.reduceAdd] at c00 c01 c02 c03 hc0
  have HSUB0 := Lib.hid hc0
  have HC00 : Hid (∀ W, Below w.heap.size w W → W.cell? ⟨g, o, none⟩ = _) := Lib.hid fun W hW => (hW.cell (p := ⟨g, o, none⟩) (World.block_lt_of_cell? w ⟨g, o, none⟩ c00)).trans c00
  have HC01 : Hid (∀ W, Below w.heap.size w W → W.cell? ⟨g, o + 1, none⟩ = _) := Lib.hid fun W hW => (hW.cell (p := ⟨g, o + 1, none⟩) (World.block_lt_of_cell? w ⟨g, o, none⟩ c00)).trans c01
  have HC02 : Hid (∀ W, Below w.heap.size w W → W.cell? ⟨g, o + 2, none⟩ = _) := Lib.hid fun W hW => (hW.cell (p := ⟨g, o + 2, none⟩) (World.block_lt_of_cell? w ⟨g, o, none⟩ c00)).trans c02
  have HC03 : Hid (∀ W, Below w.heap.size w W → W.cell? ⟨g, o + 3, none⟩ = _) := Lib.hid fun W hW => (hW.cell (p := ⟨g, o + 3, none⟩) (World.block_lt_of_cell? w ⟨g, o, none⟩ c00)).trans c03
  have HSZ := Lib.hid (show x0.size + so.size + nm.size ≤ 2000020 by omega)
  rw [← hso] at e
  rw [e]
  obtain ⟨b8, hb8⟩ : ∃ b : Bool, ((op : Int) == 8) = b := ⟨_, rfl⟩
  obtain ⟨b9, hb9⟩ : ∃ b : Bool, ((op : Int) == 9) = b := ⟨_, rfl⟩
  have HOP := Lib.hid (show (b8 || b9) = true by
    rw [← hb8, ← hb9]
    rcases hop with rfl | rfl <;> rfl)
  clear ha hs hN e hlen hso hzo
  clear hc0 c00 c01 c02 c03 hu0 hd0 hx0 hz0 h0
  have q1 : ((op : Int) == 1) = false := by simp; omega
  have q2 : ((op : Int) == 2) = false := by simp; omega
  have q15 : ((op : Int) == 15) = false := by simp; omega
  have q16 : ((op : Int) == 16) = false := by simp; omega
  have q4 : ((op : Int) == 4) = false := by simp; omega
  have q5 : ((op : Int) == 5) = false := by simp; omega
  have q6 : ((op : Int) == 6) = false := by simp; omega
  have q7 : ((op : Int) == 7) = false := by simp; omega
  have q14 : ((op : Int) == 14) = false := by simp; omega
  clear hop ho1 ho2 hsg
  go_enter Tryd.func12, Tryd.ntmps12
  go_upto_region 1 with (fail)
  obtain ⟨w1, hw1⟩ : ∃ w1, w1 = w.alloc (.cells #[.int .u8 (op : Int), .string nm, .slice aa an ac, .slice (some ⟨g, o, none⟩) 1 sc] 25) := ⟨_, rfl⟩
  have hB1 : Below w.heap.size w w1 := by rw [hw1]; exact bl_al9 _
  have k1 : w1.heap[w.heap.size]? = some (.cells #[.int .u8 (op : Int), .string nm, .slice aa an ac, .slice (some ⟨g, o, none⟩) 1 sc] 25 (0, 0)) := by rw [hw1]; exact HK.blk_new _ _
  rw [← hw1]
  have bx0 := HK.blk_cell k1 0
  have bx1 := HK.blk_cell k1 1
  have bx2 := HK.blk_cell k1 2
  have bx3 := HK.blk_cell k1 3
  have HB1 := Lib.hid hB1
  have HK1 := Lib.hid k1
  clear k1 hw1 hB1
  go_upto_if 63 with (fail)
  go_cut [63] from 63 to 65 (fun v wx => v = .bool true ∧ w1 = wx)
  case first =>
    rcases b8 with _ | _ <;> rcases b9 with _ | _
    all_goals first | (exfalso; exact absurd HOP.out (by decide)) | (go_wp2_with (fail); go_meet; exact ⟨rfl, rfl⟩)
  case rest =>
  obtain ⟨rfl, hwx⟩ := hcut
  obtain rfl := hwx
  go_upto_region 18 with (fail)
  go_cut [2] from 2 to 79 (fun v wx => v = .string ((((so ++ ⟨#[32]⟩) ++ nm) ++ ⟨#[32]⟩) ++ x0) ∧ Below w1.heap.size w1 wx)
  case first =>
    refine Go.RE.wp_region_eachg [66, 67, 68, 69, 70, 71, 72, 73, 74, 75, 76, 77, 78, 79, 2] (fun L x W => (Below w1.heap.size w1 W) ∧ (L 0 = true → x 66 = .pointer (some ⟨w.heap.size, 0, none⟩)) ∧ (L 1 = true → x 67 = .int .u8 (op : Int)) ∧ (L 2 = true → x 68 = .string so) ∧ (L 3 = true → x 69 = .string (so ++ ⟨#[32]⟩)) ∧ (L 4 = true → x 70 = .pointer (some ⟨w.heap.size, 1, none⟩)) ∧ (L 5 = true → x 71 = .string nm) ∧ (L 6 = true → x 72 = .string ((so ++ ⟨#[32]⟩) ++ nm)) ∧ (L 7 = true → x 73 = .string (((so ++ ⟨#[32]⟩) ++ nm) ++ ⟨#[32]⟩)) ∧ (L 8 = true → x 74 = .pointer (some ⟨w.heap.size, 3, none⟩)) ∧ (L 9 = true → x 75 = .slice (some ⟨g, o, none⟩) 1 sc) ∧ (L 10 = true → x 76 = .pointer (some ⟨g, o, none⟩)) ∧ (L 11 = true → x 77 = .agg #[.int .u8 (o0 : Int), .string m0, .slice ua0 un0 uc0, .slice da0 dn0 dc0]) ∧ (L 12 = true → x 78 = .string x0) ∧ (L 13 = true → x 79 = .string ((((so ++ ⟨#[32]⟩) ++ nm) ++ ⟨#[32]⟩) ++ x0)) ∧ (L 14 = true → x 2 = .string ((((so ++ ⟨#[32]⟩) ++ nm) ++ ⟨#[32]⟩) ++ x0))) (by kernel_rfl) (by kernel_rfl) (by kernel_rfl) ?_ ((Go.RE.Each.cons ?_ (Go.RE.Each.cons ?_ (Go.RE.Each.cons ?_ (Go.RE.Each.cons ?_ (Go.RE.Each.cons ?_ (Go.RE.Each.cons ?_ (Go.RE.Each.cons ?_ (Go.RE.Each.cons ?_ (Go.RE.Each.cons ?_ (Go.RE.Each.cons ?_ (Go.RE.Each.cons ?_ (Go.RE.Each.cons ?_ (Go.RE.Each.cons ?_ (Go.RE.Each.cons ?_ (Go.RE.Each.cons ?_ Go.RE.Each.nil)))))))))))))))) ?_
    · exact fun x => ⟨bl_dr9 (Below.refl _ _), nofun, nofun, nofun, nofun, nofun, nofun, nofun, nofun, nofun, nofun, nofun, nofun, nofun, nofun, nofun⟩
    · intro L x a wR K hL hd hf hx hΦ hK
      obtain ⟨hI, f0, f1, f2, f3, f4, f5, f6, f7, f8, f9, f10, f11, f12, f13, f14⟩ := hΦ
      refine ⟨fun _ => ?_, fun h => absurd h (by rw [Go.RE.wanted_none rfl]; decide)⟩
      have e1 : a.tmps[1]? = some (.pointer (some ⟨w.heap.size, 0, none⟩)) := hf 1 (of_decide_eq_true (by kernel_rfl))
      clear hf hx hd
      go_simp
      refine hK _ _ ?_
      exact ⟨hI, fun _ => rfl, f1, f2, f3, f4, f5, f6, f7, f8, f9, f10, f11, f12, f13, f14⟩
    · intro L x a wR K hL hd hf hx hΦ hK
      obtain ⟨hI, f0, f1, f2, f3, f4, f5, f6, f7, f8, f9, f10, f11, f12, f13, f14⟩ := hΦ
      refine ⟨fun _ => ?_, fun h => absurd h (by rw [Go.RE.wanted_none rfl]; decide)⟩
      have d0 := f0 (hd 0 (by kernel_rfl))
      have e66 : a.tmps[66]? = some (x 66) := hx 0 _ 66 rfl rfl (hd 0 (by kernel_rfl))
      rw [d0] at e66
      have kb := (hI.block _ (HK.blk_lt HK1.out)).trans HK1.out
      have xb := HK.blk_cell kb 0
      clear hf hx hd
      go_simp
      refine hK _ _ ?_
      exact ⟨hI, f0, fun _ => rfl, f2, f3, f4, f5, f6, f7, f8, f9, f10, f11, f12, f13, f14⟩
    · intro L x a wR K hL hd hf hx hΦ hK
      obtain ⟨hI, f0, f1, f2, f3, f4, f5, f6, f7, f8, f9, f10, f11, f12, f13, f14⟩ := hΦ
      refine ⟨fun _ => ?_, fun h => absurd h (by rw [Go.RE.wanted_none rfl]; decide)⟩
      have d1 := f1 (hd 1 (by kernel_rfl))
      have e67 : a.tmps[67]? = some (x 67) := hx 1 _ 67 rfl rfl (hd 1 (by kernel_rfl))
      rw [d1] at e67
      clear hf hx hd
      go_simp
      go_at_call 18
      with_reducible refine (HSG.out _).mono ?_
      rintro e w' ⟨rfl, hB8⟩
      simp only
      refine hK _ _ ?_
      exact ⟨hI.trans (hB8.mono hI.size), f0, f1, fun _ => rfl, f3, f4, f5, f6, f7, f8, f9, f10, f11, f12, f13, f14⟩
    · intro L x a wR K hL hd hf hx hΦ hK
      obtain ⟨hI, f0, f1, f2, f3, f4, f5, f6, f7, f8, f9, f10, f11, f12, f13, f14⟩ := hΦ
      refine ⟨fun _ => ?_, fun h => absurd h (by rw [Go.RE.wanted_none rfl]; decide)⟩
      have d2 := f2 (hd 2 (by kernel_rfl))
      have e68 : a.tmps[68]? = some (x 68) := hx 2 _ 68 rfl rfl (hd 2 (by kernel_rfl))
      rw [d2] at e68
      clear hf hx hd
      go_simp
      rw [if_neg (by have := HSZ.out; omega)]
      go_simp
      refine hK _ _ ?_
      exact ⟨hI, f0, f1, f2, fun _ => rfl, f4, f5, f6, f7, f8, f9, f10, f11, f12, f13, f14⟩
    · intro L x a wR K hL hd hf hx hΦ hK
      obtain ⟨hI, f0, f1, f2, f3, f4, f5, f6, f7, f8, f9, f10, f11, f12, f13, f14⟩ := hΦ
      refine ⟨fun _ => ?_, fun h => absurd h (by rw [Go.RE.wanted_none rfl]; decide)⟩
      have e1 : a.tmps[1]? = some (.pointer (some ⟨w.heap.size, 0, none⟩)) := hf 1 (of_decide_eq_true (by kernel_rfl))
      clear hf hx hd
      go_simp
      refine hK _ _ ?_
      exact ⟨hI, f0, f1, f2, f3, fun _ => rfl, f5, f6, f7, f8, f9, f10, f11, f12, f13, f14⟩
    · intro L x a wR K hL hd hf hx hΦ hK
      obtain ⟨hI, f0, f1, f2, f3, f4, f5, f6, f7, f8, f9, f10, f11, f12, f13, f14⟩ := hΦ
      refine ⟨fun _ => ?_, fun h => absurd h (by rw [Go.RE.wanted_none rfl]; decide)⟩
      have d4 := f4 (hd 4 (by kernel_rfl))
      have e70 : a.tmps[70]? = some (x 70) := hx 4 _ 70 rfl rfl (hd 4 (by kernel_rfl))
      rw [d4] at e70
      have kb := (hI.block _ (HK.blk_lt HK1.out)).trans HK1.out
      have xb := HK.blk_cell kb 1
      clear hf hx hd
      go_simp
      refine hK _ _ ?_
      exact ⟨hI, f0, f1, f2, f3, f4, fun _ => rfl, f6, f7, f8, f9, f10, f11, f12, f13, f14⟩
    · intro L x a wR K hL hd hf hx hΦ hK
      obtain ⟨hI, f0, f1, f2, f3, f4, f5, f6, f7, f8, f9, f10, f11, f12, f13, f14⟩ := hΦ
      refine ⟨fun _ => ?_, fun h => absurd h (by rw [Go.RE.wanted_none rfl]; decide)⟩
      have d3 := f3 (hd 3 (by kernel_rfl))
      have e69 : a.tmps[69]? = some (x 69) := hx 3 _ 69 rfl rfl (hd 3 (by kernel_rfl))
      rw [d3] at e69
      have d5 := f5 (hd 5 (by kernel_rfl))
      have e71 : a.tmps[71]? = some (x 71) := hx 5 _ 71 rfl rfl (hd 5 (by kernel_rfl))
      rw [d5] at e71
      clear hf hx hd
      go_simp
      rw [if_neg (by have := HSZ.out; omega)]
      go_simp
      refine hK _ _ ?_
      exact ⟨hI, f0, f1, f2, f3, f4, f5, fun _ => rfl, f7, f8, f9, f10, f11, f12, f13, f14⟩
    · intro L x a wR K hL hd hf hx hΦ hK
      obtain ⟨hI, f0, f1, f2, f3, f4, f5, f6, f7, f8, f9, f10, f11, f12, f13, f14⟩ := hΦ
      refine ⟨fun _ => ?_, fun h => absurd h (by rw [Go.RE.wanted_none rfl]; decide)⟩
      have d6 := f6 (hd 6 (by kernel_rfl))
      have e72 : a.tmps[72]? = some (x 72) := hx 6 _ 72 rfl rfl (hd 6 (by kernel_rfl))
      rw [d6] at e72
      clear hf hx hd
      go_simp
      rw [if_neg (by have := HSZ.out; omega)]
      go_simp
      refine hK _ _ ?_
      exact ⟨hI, f0, f1, f2, f3, f4, f5, f6, fun _ => rfl, f8, f9, f10, f11, f12, f13, f14⟩
    · intro L x a wR K hL hd hf hx hΦ hK
      obtain ⟨hI, f0, f1, f2, f3, f4, f5, f6, f7, f8, f9, f10, f11, f12, f13, f14⟩ := hΦ
      refine ⟨fun _ => ?_, fun h => absurd h (by rw [Go.RE.wanted_none rfl]; decide)⟩
      have e1 : a.tmps[1]? = some (.pointer (some ⟨w.heap.size, 0, none⟩)) := hf 1 (of_decide_eq_true (by kernel_rfl))
      clear hf hx hd
      go_simp
      refine hK _ _ ?_
      exact ⟨hI, f0, f1, f2, f3, f4, f5, f6, f7, fun _ => rfl, f9, f10, f11, f12, f13, f14⟩
    · intro L x a wR K hL hd hf hx hΦ hK
      obtain ⟨hI, f0, f1, f2, f3, f4, f5, f6, f7, f8, f9, f10, f11, f12, f13, f14⟩ := hΦ
      refine ⟨fun _ => ?_, fun h => absurd h (by rw [Go.RE.wanted_none rfl]; decide)⟩
      have d8 := f8 (hd 8 (by kernel_rfl))
      have e74 : a.tmps[74]? = some (x 74) := hx 8 _ 74 rfl rfl (hd 8 (by kernel_rfl))
      rw [d8] at e74
      have kb := (hI.block _ (HK.blk_lt HK1.out)).trans HK1.out
      have xb := HK.blk_cell kb 3
      clear hf hx hd
      go_simp
      refine hK _ _ ?_
      exact ⟨hI, f0, f1, f2, f3, f4, f5, f6, f7, f8, fun _ => rfl, f10, f11, f12, f13, f14⟩
    · intro L x a wR K hL hd hf hx hΦ hK
      obtain ⟨hI, f0, f1, f2, f3, f4, f5, f6, f7, f8, f9, f10, f11, f12, f13, f14⟩ := hΦ
      refine ⟨fun _ => ?_, fun h => absurd h (by rw [Go.RE.wanted_none rfl]; decide)⟩
      have d9 := f9 (hd 9 (by kernel_rfl))
      have e75 : a.tmps[75]? = some (x 75) := hx 9 _ 75 rfl rfl (hd 9 (by kernel_rfl))
      rw [d9] at e75
      clear hf hx hd
      go_simp
      refine hK _ _ ?_
      exact ⟨hI, f0, f1, f2, f3, f4, f5, f6, f7, f8, f9, fun _ => rfl, f11, f12, f13, f14⟩
    · intro L x a wR K hL hd hf hx hΦ hK
      obtain ⟨hI, f0, f1, f2, f3, f4, f5, f6, f7, f8, f9, f10, f11, f12, f13, f14⟩ := hΦ
      refine ⟨fun _ => ?_, fun h => absurd h (by rw [Go.RE.wanted_none rfl]; decide)⟩
      have d10 := f10 (hd 10 (by kernel_rfl))
      have e76 : a.tmps[76]? = some (x 76) := hx 10 _ 76 rfl rfl (hd 10 (by kernel_rfl))
      rw [d10] at e76
      have hb9 := HB1.out.trans (hI.mono HB1.out.size)
      have cc0 := HC00.out _ hb9
      have cc1 := HC01.out _ hb9
      have cc2 := HC02.out _ hb9
      have cc3 := HC03.out _ hb9
      clear hf hx hd
      go_simp
      refine hK _ _ ?_
      exact ⟨hI, f0, f1, f2, f3, f4, f5, f6, f7, f8, f9, f10, fun _ => rfl, f12, f13, f14⟩
    · intro L x a wR K hL hd hf hx hΦ hK
      obtain ⟨hI, f0, f1, f2, f3, f4, f5, f6, f7, f8, f9, f10, f11, f12, f13, f14⟩ := hΦ
      refine ⟨fun _ => ?_, fun h => absurd h (by rw [Go.RE.wanted_none rfl]; decide)⟩
      have d11 := f11 (hd 11 (by kernel_rfl))
      have e77 : a.tmps[77]? = some (x 77) := hx 11 _ 77 rfl rfl (hd 11 (by kernel_rfl))
      rw [d11] at e77
      clear hf hx hd
      go_simp
      go_at_call 12
      with_reducible refine (HSUB0.out _ (HB1.out.trans (hI.mono HB1.out.size))).mono ?_
      rintro e w' ⟨rfl, hB8⟩
      simp only
      refine hK _ _ ?_
      exact ⟨hI.trans (hB8.mono hI.size), f0, f1, f2, f3, f4, f5, f6, f7, f8, f9, f10, f11, fun _ => rfl, f13, f14⟩
    · intro L x a wR K hL hd hf hx hΦ hK
      obtain ⟨hI, f0, f1, f2, f3, f4, f5, f6, f7, f8, f9, f10, f11, f12, f13, f14⟩ := hΦ
      refine ⟨fun _ => ?_, fun h => absurd h (by rw [Go.RE.wanted_none rfl]; decide)⟩
      have d7 := f7 (hd 7 (by kernel_rfl))
      have e73 : a.tmps[73]? = some (x 73) := hx 7 _ 73 rfl rfl (hd 7 (by kernel_rfl))
      rw [d7] at e73
      have d12 := f12 (hd 12 (by kernel_rfl))
      have e78 : a.tmps[78]? = some (x 78) := hx 12 _ 78 rfl rfl (hd 12 (by kernel_rfl))
      rw [d12] at e78
      clear hf hx hd
      go_simp
      rw [if_neg (by have := HSZ.out; omega)]
      go_simp
      refine hK _ _ ?_
      exact ⟨hI, f0, f1, f2, f3, f4, f5, f6, f7, f8, f9, f10, f11, f12, fun _ => rfl, f14⟩
    · intro L x a wR K hL hd hf hx hΦ hK
      obtain ⟨hI, f0, f1, f2, f3, f4, f5, f6, f7, f8, f9, f10, f11, f12, f13, f14⟩ := hΦ
      refine ⟨fun _ => ?_, fun h => absurd h (by rw [Go.RE.wanted_none rfl]; decide)⟩
      have d13 := f13 (hd 13 (by kernel_rfl))
      have e79 : a.tmps[79]? = some (x 79) := hx 13 _ 79 rfl rfl (hd 13 (by kernel_rfl))
      rw [d13] at e79
      clear hf hx hd
      go_simp
      refine hK _ _ ?_
      exact ⟨hI, f0, f1, f2, f3, f4, f5, f6, f7, f8, f9, f10, f11, f12, f13, fun _ => rfl⟩
    · rintro x W ⟨hI, f0, f1, f2, f3, f4, f5, f6, f7, f8, f9, f10, f11, f12, f13, f14⟩
      simp only [Exit.then]
      go_step
      go_meet
      exact ⟨f14 rfl, hI⟩
  case rest =>
    obtain ⟨rfl, hB3⟩ := hcut
    have HB3 := Lib.hid (HB1.out.trans (hB3.mono HB1.out.size))
    clear hB3
    go_wp2_with (fail)
    go_ret
    exact ⟨rfl, HB3.out⟩
set_option maxRecDepth 100000 in
set_option maxHeartbeats 4000000 in
theorem full_una (op : Nat) (hop : op = 3 ∨ op = 10 ∨ op = 11 ∨ op = 12 ∨ op = 13) (nm : ByteArray) (args : List Tm) (f0 : Fm) (h0 : FullOk f0) : FullOk (.mk op nm args [f0]) := by
  have ho1 : 3 ≤ op := by omega
  have ho2 : op ≤ 14 := by omega
  intro w a s ha hs hN
  simp only [FR.Fm.op, FR.Fm.name, FR.Fm.args, FR.Fm.subs] at ha hs ⊢
  obtain ⟨aa, an, ac⟩ := a
  obtain ⟨sa, sn, sc⟩ := s
  simp only [SL.v]
  have hl := hs.len
  simp only [List.length_cons, List.length_nil, Nat.zero_add, Nat.reduceAdd] at hl
  subst hl
  obtain ⟨g, o, rfl⟩ := IsFs.pos hs (by decide)
  have hsg := fun (W : World) => sign_call W op ho1 ho2
  obtain ⟨so, hso⟩ : ∃ so, so = mkS (opS op) := ⟨_, rfl⟩
  have hzo : so.size ≤ 10 := by rw [hso, mk_size]; rcases (by omega : op = 3 ∨ op = 4 ∨ op = 5 ∨ op = 6 ∨ op = 7 ∨ op = 8 ∨ op = 9 ∨ op = 10 ∨ op = 11 ∨ op = 12 ∨ op = 13 ∨ op = 14) with rfl | rfl | rfl | rfl | rfl | rfl | rfl | rfl | rfl | rfl | rfl | rfl <;> decide
  rw [← hso] at hsg
  have HSG := Lib.hid hsg
  have e : mkS (fullF (.mk op nm args [f0])) = ((mkS (opS op) ++ ⟨#[32]⟩) ++ mkS (fullF f0)) := by
    have n1 : op ≠ 1 := by omega
    have n2 : op ≠ 2 := by omega
    have n3 : op ≠ 15 := by omega
    have n4 : op ≠ 16 := by omega
    have n5 : binO op = false := by simp only [binO, decide_eq_false_iff_not]; omega
    have n6 : ¬ (op = 8 ∨ op = 9) := by omega
    apply ByteArray.ext
    simp [fullF, fullFs, bodyF, n1, n2, n3, n4, n5, n6, mkS, ByteArray.data_append] <;> rfl
  have hlen : (mkS (fullF (.mk op nm args [f0]))).size ≤ 1000000 := by rw [mk_size]; exact hN
  rw [e] at hlen
  simp only [sz_app, mk_size] at hlen
  obtain ⟨u0, d0, c00, c01, c02, c03, hu0, hd0, _⟩ := fs_at hs (k := 0) rfl
  have hc0 := fun (W : World) (hW : Below w.heap.size w W) => h0 W u0 d0 (hu0.turn (sn_up hW)) (hd0.turn (sn_up hW)) (by omega)
  obtain ⟨x0, hx0⟩ : ∃ x0, x0 = mkS (fullF f0) := ⟨_, rfl⟩
  have hz0 : x0.size = (fullF f0).length := by rw [hx0, mk_size]
  rw [← hx0] at hc0 e
  obtain ⟨o0, m0, b0, t0⟩ := f0
  obtain ⟨ua0, un0, uc0⟩ := u0
  obtain ⟨da0, dn0, dc0⟩ := d0
  simp only [FR.Fm.op, FR.Fm.name, SL.v, Nat.zero_mul, Nat.one_mul, Nat.add_zero, Nat.add_assoc, Nat.reduceAdd] at c00 c01 c02 c03 hc0
  have HSUB0 := Lib.hid hc0
  have HC00 : Hid (∀ W, Below w.heap.size w W → W.cell? ⟨g, o, none⟩ = _) := Lib.hid fun W hW => (hW.cell (p := ⟨g, o, none⟩) (World.block_lt_of_cell? w ⟨g, o, none⟩ c00)).trans c00
  have HC01 : Hid (∀ W, Below w.heap.size w W → W.cell? ⟨g, o + 1, none⟩ = _) := Lib.hid fun W hW => (hW.cell (p := ⟨g, o + 1, none⟩) (World.block_lt_of_cell? w ⟨g, o, none⟩ c00)).trans c01
  have HC02 : Hid (∀ W, Below w.heap.size w W → W.cell? ⟨g, o + 2, none⟩ = _) := Lib.hid fun W hW => (hW.cell (p := ⟨g, o + 2, none⟩) (World.block_lt_of_cell? w ⟨g, o, none⟩ c00)).trans c02
  have HC03 : Hid (∀ W, Below w.heap.size w W → W.cell? ⟨g, o + 3, none⟩ = _) := Lib.hid fun W hW => (hW.cell (p := ⟨g, o + 3, none⟩) (World.block_lt_of_cell? w ⟨g, o, none⟩ c00)).trans c03
  have HSZ := Lib.hid (show x0.size + so.size ≤ 2000020 by omega)
  rw [← hso] at e
  rw [e]
  clear ha hs hN e hlen hso hzo
  clear hc0 c00 c01 c02 c03 hu0 hd0 hx0 hz0 h0
  have q1 : ((op : Int) == 1) = false := by simp; omega
  have q2 : ((op : Int) == 2) = false := by simp; omega
  have q15 : ((op : Int) == 15) = false := by simp; omega
  have q16 : ((op : Int) == 16) = false := by simp; omega
  have q4 : ((op : Int) == 4) = false := by simp; omega
  have q5 : ((op : Int) == 5) = false := by simp; omega
  have q6 : ((op : Int) == 6) = false := by simp; omega
  have q7 : ((op : Int) == 7) = false := by simp; omega
  have q14 : ((op : Int) == 14) = false := by simp; omega
  have q8 : ((op : Int) == 8) = false := by simp; omega
  have q9 : ((op : Int) == 9) = false := by simp; omega
  clear hop ho1 ho2 hsg
  go_enter Tryd.func12, Tryd.ntmps12
  go_upto_region 1 with (fail)
  obtain ⟨w1, hw1⟩ : ∃ w1, w1 = w.alloc (.cells #[.int .u8 (op : Int), .string nm, .slice aa an ac, .slice (some ⟨g, o, none⟩) 1 sc] 25) := ⟨_, rfl⟩
  have hB1 : Below w.heap.size w w1 := by rw [hw1]; exact bl_al9 _
  have k1 : w1.heap[w.heap.size]? = some (.cells #[.int .u8 (op : Int), .string nm, .slice aa an ac, .slice (some ⟨g, o, none⟩) 1 sc] 25 (0, 0)) := by rw [hw1]; exact HK.blk_new _ _
  rw [← hw1]
  have bx0 := HK.blk_cell k1 0
  have bx1 := HK.blk_cell k1 1
  have bx2 := HK.blk_cell k1 2
  have bx3 := HK.blk_cell k1 3
  have HB1 := Lib.hid hB1
  have HK1 := Lib.hid k1
  clear k1 hw1 hB1
  go_upto_region 19 with (fail)
  go_cut [2] from 2 to 89 (fun v wx => v = .string ((so ++ ⟨#[32]⟩) ++ x0) ∧ Below w1.heap.size w1 wx)
  case first =>
    refine Go.RE.wp_region_eachg [80, 81, 82, 83, 84, 85, 86, 87, 88, 89, 2] (fun L x W => (Below w1.heap.size w1 W) ∧ (L 0 = true → x 80 = .pointer (some ⟨w.heap.size, 0, none⟩)) ∧ (L 1 = true → x 81 = .int .u8 (op : Int)) ∧ (L 2 = true → x 82 = .string so) ∧ (L 3 = true → x 83 = .string (so ++ ⟨#[32]⟩)) ∧ (L 4 = true → x 84 = .pointer (some ⟨w.heap.size, 3, none⟩)) ∧ (L 5 = true → x 85 = .slice (some ⟨g, o, none⟩) 1 sc) ∧ (L 6 = true → x 86 = .pointer (some ⟨g, o, none⟩)) ∧ (L 7 = true → x 87 = .agg #[.int .u8 (o0 : Int), .string m0, .slice ua0 un0 uc0, .slice da0 dn0 dc0]) ∧ (L 8 = true → x 88 = .string x0) ∧ (L 9 = true → x 89 = .string ((so ++ ⟨#[32]⟩) ++ x0)) ∧ (L 10 = true → x 2 = .string ((so ++ ⟨#[32]⟩) ++ x0))) (by kernel_rfl) (by kernel_rfl) (by kernel_rfl) ?_ ((Go.RE.Each.cons ?_ (Go.RE.Each.cons ?_ (Go.RE.Each.cons ?_ (Go.RE.Each.cons ?_ (Go.RE.Each.cons ?_ (Go.RE.Each.cons ?_ (Go.RE.Each.cons ?_ (Go.RE.Each.cons ?_ (Go.RE.Each.cons ?_ (Go.RE.Each.cons ?_ (Go.RE.Each.cons ?_ Go.RE.Each.nil)))))))))))) ?_
    · exact fun x => ⟨bl_dr9 (Below.refl _ _), nofun, nofun, nofun, nofun, nofun, nofun, nofun, nofun, nofun, nofun, nofun⟩
    · intro L x a wR K hL hd hf hx hΦ hK
      obtain ⟨hI, f0, f1, f2, f3, f4, f5, f6, f7, f8, f9, f10⟩ := hΦ
      refine ⟨fun _ => ?_, fun h => absurd h (by rw [Go.RE.wanted_none rfl]; decide)⟩
      have e1 : a.tmps[1]? = some (.pointer (some ⟨w.heap.size, 0, none⟩)) := hf 1 (of_decide_eq_true (by kernel_rfl))
      clear hf hx hd
      go_simp
      refine hK _ _ ?_
      exact ⟨hI, fun _ => rfl, f1, f2, f3, f4, f5, f6, f7, f8, f9, f10⟩
    · intro L x a wR K hL hd hf hx hΦ hK
      obtain ⟨hI, f0, f1, f2, f3, f4, f5, f6, f7, f8, f9, f10⟩ := hΦ
      refine ⟨fun _ => ?_, fun h => absurd h (by rw [Go.RE.wanted_none rfl]; decide)⟩
      have d0 := f0 (hd 0 (by kernel_rfl))
      have e80 : a.tmps[80]? = some (x 80) := hx 0 _ 80 rfl rfl (hd 0 (by kernel_rfl))
      rw [d0] at e80
      have kb := (hI.block _ (HK.blk_lt HK1.out)).trans HK1.out
      have xb := HK.blk_cell kb 0
      clear hf hx hd
      go_simp
      refine hK _ _ ?_
      exact ⟨hI, f0, fun _ => rfl, f2, f3, f4, f5, f6, f7, f8, f9, f10⟩
    · intro L x a wR K hL hd hf hx hΦ hK
      obtain ⟨hI, f0, f1, f2, f3, f4, f5, f6, f7, f8, f9, f10⟩ := hΦ
      refine ⟨fun _ => ?_, fun h => absurd h (by rw [Go.RE.wanted_none rfl]; decide)⟩
      have d1 := f1 (hd 1 (by kernel_rfl))
      have e81 : a.tmps[81]? = some (x 81) := hx 1 _ 81 rfl rfl (hd 1 (by kernel_rfl))
      rw [d1] at e81
      clear hf hx hd
      go_simp
      go_at_call 18
      with_reducible refine (HSG.out _).mono ?_
      rintro e w' ⟨rfl, hB8⟩
      simp only
      refine hK _ _ ?_
      exact ⟨hI.trans (hB8.mono hI.size), f0, f1, fun _ => rfl, f3, f4, f5, f6, f7, f8, f9, f10⟩
    · intro L x a wR K hL hd hf hx hΦ hK
      obtain ⟨hI, f0, f1, f2, f3, f4, f5, f6, f7, f8, f9, f10⟩ := hΦ
      refine ⟨fun _ => ?_, fun h => absurd h (by rw [Go.RE.wanted_none rfl]; decide)⟩
      have d2 := f2 (hd 2 (by kernel_rfl))
      have e82 : a.tmps[82]? = some (x 82) := hx 2 _ 82 rfl rfl (hd 2 (by kernel_rfl))
      rw [d2] at e82
      clear hf hx hd
      go_simp
      rw [if_neg (by have := HSZ.out; omega)]
      go_simp
      refine hK _ _ ?_
      exact ⟨hI, f0, f1, f2, fun _ => rfl, f4, f5, f6, f7, f8, f9, f10⟩
    · intro L x a wR K hL hd hf hx hΦ hK
      obtain ⟨hI, f0, f1, f2, f3, f4, f5, f6, f7, f8, f9, f10⟩ := hΦ
      refine ⟨fun _ => ?_, fun h => absurd h (by rw [Go.RE.wanted_none rfl]; decide)⟩
      have e1 : a.tmps[1]? = some (.pointer (some ⟨w.heap.size, 0, none⟩)) := hf 1 (of_decide_eq_true (by kernel_rfl))
      clear hf hx hd
      go_simp
      refine hK _ _ ?_
      exact ⟨hI, f0, f1, f2, f3, fun _ => rfl, f5, f6, f7, f8, f9, f10⟩
    · intro L x a wR K hL hd hf hx hΦ hK
      obtain ⟨hI, f0, f1, f2, f3, f4, f5, f6, f7, f8, f9, f10⟩ := hΦ
      refine ⟨fun _ => ?_, fun h => absurd h (by rw [Go.RE.wanted_none rfl]; decide)⟩
      have d4 := f4 (hd 4 (by kernel_rfl))
      have e84 : a.tmps[84]? = some (x 84) := hx 4 _ 84 rfl rfl (hd 4 (by kernel_rfl))
      rw [d4] at e84
      have kb := (hI.block _ (HK.blk_lt HK1.out)).trans HK1.out
      have xb := HK.blk_cell kb 3
      clear hf hx hd
      go_simp
      refine hK _ _ ?_
      exact ⟨hI, f0, f1, f2, f3, f4, fun _ => rfl, f6, f7, f8, f9, f10⟩
    · intro L x a wR K hL hd hf hx hΦ hK
      obtain ⟨hI, f0, f1, f2, f3, f4, f5, f6, f7, f8, f9, f10⟩ := hΦ
      refine ⟨fun _ => ?_, fun h => absurd h (by rw [Go.RE.wanted_none rfl]; decide)⟩
      have d5 := f5 (hd 5 (by kernel_rfl))
      have e85 : a.tmps[85]? = some (x 85) := hx 5 _ 85 rfl rfl (hd 5 (by kernel_rfl))
      rw [d5] at e85
      clear hf hx hd
      go_simp
      refine hK _ _ ?_
      exact ⟨hI, f0, f1, f2, f3, f4, f5, fun _ => rfl, f7, f8, f9, f10⟩
    · intro L x a wR K hL hd hf hx hΦ hK
      obtain ⟨hI, f0, f1, f2, f3, f4, f5, f6, f7, f8, f9, f10⟩ := hΦ
      refine ⟨fun _ => ?_, fun h => absurd h (by rw [Go.RE.wanted_none rfl]; decide)⟩
      have d6 := f6 (hd 6 (by kernel_rfl))
      have e86 : a.tmps[86]? = some (x 86) := hx 6 _ 86 rfl rfl (hd 6 (by kernel_rfl))
      rw [d6] at e86
      have hb9 := HB1.out.trans (hI.mono HB1.out.size)
      have cc0 := HC00.out _ hb9
      have cc1 := HC01.out _ hb9
      have cc2 := HC02.out _ hb9
      have cc3 := HC03.out _ hb9
      clear hf hx hd
      go_simp
      refine hK _ _ ?_
      exact ⟨hI, f0, f1, f2, f3, f4, f5, f6, fun _ => rfl, f8, f9, f10⟩
    · intro L x a wR K hL hd hf hx hΦ hK
      obtain ⟨hI, f0, f1, f2, f3, f4, f5, f6, f7, f8, f9, f10⟩ := hΦ
      refine ⟨fun _ => ?_, fun h => absurd h (by rw [Go.RE.wanted_none rfl]; decide)⟩
      have d7 := f7 (hd 7 (by kernel_rfl))
      have e87 : a.tmps[87]? = some (x 87) := hx 7 _ 87 rfl rfl (hd 7 (by kernel_rfl))
      rw [d7] at e87
      clear hf hx hd
      go_simp
      go_at_call 12
      with_reducible refine (HSUB0.out _ (HB1.out.trans (hI.mono HB1.out.size))).mono ?_
      rintro e w' ⟨rfl, hB8⟩
      simp only
      refine hK _ _ ?_
      exact ⟨hI.trans (hB8.mono hI.size), f0, f1, f2, f3, f4, f5, f6, f7, fun _ => rfl, f9, f10⟩
    · intro L x a wR K hL hd hf hx hΦ hK
      obtain ⟨hI, f0, f1, f2, f3, f4, f5, f6, f7, f8, f9, f10⟩ := hΦ
      refine ⟨fun _ => ?_, fun h => absurd h (by rw [Go.RE.wanted_none rfl]; decide)⟩
      have d3 := f3 (hd 3 (by kernel_rfl))
      have e83 : a.tmps[83]? = some (x 83) := hx 3 _ 83 rfl rfl (hd 3 (by kernel_rfl))
      rw [d3] at e83
      have d8 := f8 (hd 8 (by kernel_rfl))
      have e88 : a.tmps[88]? = some (x 88) := hx 8 _ 88 rfl rfl (hd 8 (by kernel_rfl))
      rw [d8] at e88
      clear hf hx hd
      go_simp
      rw [if_neg (by have := HSZ.out; omega)]
      go_simp
      refine hK _ _ ?_
      exact ⟨hI, f0, f1, f2, f3, f4, f5, f6, f7, f8, fun _ => rfl, f10⟩
    · intro L x a wR K hL hd hf hx hΦ hK
      obtain ⟨hI, f0, f1, f2, f3, f4, f5, f6, f7, f8, f9, f10⟩ := hΦ
      refine ⟨fun _ => ?_, fun h => absurd h (by rw [Go.RE.wanted_none rfl]; decide)⟩
      have d9 := f9 (hd 9 (by kernel_rfl))
      have e89 : a.tmps[89]? = some (x 89) := hx 9 _ 89 rfl rfl (hd 9 (by kernel_rfl))
      rw [d9] at e89
      clear hf hx hd
      go_simp
      refine hK _ _ ?_
      exact ⟨hI, f0, f1, f2, f3, f4, f5, f6, f7, f8, f9, fun _ => rfl⟩
    · rintro x W ⟨hI, f0, f1, f2, f3, f4, f5, f6, f7, f8, f9, f10⟩
      simp only [Exit.then]
      go_step
      go_meet
      exact ⟨f10 rfl, hI⟩
  case rest =>
    obtain ⟨rfl, hB3⟩ := hcut
    have HB3 := Lib.hid (HB1.out.trans (hB3.mono HB1.out.size))
    clear hB3
    go_wp2_with (fail)
    go_ret
    exact ⟨rfl, HB3.out⟩
theorem full_of {D : Dp} {d op : Nat} {nm : ByteArray} {args : List Tm} {subs : List Fm} (hD : D.n ≤ 1000) (h : GoodF D d op nm args subs) (IH : ∀ f ∈ subs, FullOk f) : FullOk (.mk op nm args subs) := by
  have h1 := h.op1
  have hsl := h.sl
  rcases (by omega : op = 1 ∨ op = 2 ∨ op = 15 ∨ op = 16 ∨ (op = 4 ∨ op = 5 ∨ op = 6 ∨ op = 7 ∨ op = 14) ∨ (op = 8 ∨ op = 9) ∨ (op = 3 ∨ op = 10 ∨ op = 11 ∨ op = 12 ∨ op = 13)) with rfl | rfl | rfl | rfl | ho | ho | ho
  · obtain rfl : subs = [] := List.length_eq_zero_iff.1 hsl
    exact full_atom nm args
  · exact full_false nm args subs
  · exact full_meta nm args subs
  · have hi := h.inst rfl
    obtain ⟨x, t, rfl⟩ : ∃ x t, args = [x, t] := by
      match args, hi with
      | [x, t], _ => exact ⟨x, t, rfl⟩
    exact full_inst nm x t subs
  · obtain ⟨f, g, rfl⟩ := two_of (hsl.trans (by rcases ho with rfl | rfl | rfl | rfl | rfl <;> rfl))
    exact full_bin op (by simp only [binO, decide_eq_true_eq]; exact ho) nm args f g (IH f (by simp)) (IH g (by simp))
  · obtain ⟨f, rfl⟩ := one_of (hsl.trans (by rcases ho with rfl | rfl <;> rfl))
    exact full_quant op ho nm args f (IH f (by simp))
  · obtain ⟨f, rfl⟩ := one_of (hsl.trans (by rcases ho with rfl | rfl | rfl | rfl | rfl <;> rfl))
    exact full_una op ho nm args f (IH f (by simp))
mutual
theorem full_call {D : Dp} (hD : D.n ≤ 1000) : ∀ (f : Fm) (d : Nat), goodF D d f = true → FullOk f
  | .mk op nm args subs, d, h => full_of hD (goodF_of h) (full_calls hD subs (d + 1) (goodF_of h).gs)
theorem full_calls {D : Dp} (hD : D.n ≤ 1000) : ∀ (l : List Fm) (d : Nat), (∀ f ∈ l, goodF D d f = true) → ∀ f ∈ l, FullOk f
  | [], d, _, f, h => by cases h
  | x :: r, d, hg, f, h => by
    rcases List.mem_cons.1 h with he | h
    · rw [he]; exact full_call hD x d (hg x (by simp))
    · exact full_calls hD r d (fun f hf => hg f (by simp [hf])) f h
end
end Go.Proofs.YtdobflpbkfkmgaaDoor
