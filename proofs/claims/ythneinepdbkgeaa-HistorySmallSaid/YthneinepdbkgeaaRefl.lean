/- refl.py prints this text (template refl.tpl). The reference's lastly (51): entries gone to by the order of the places of their ways. -/
import Derived.Test.YthneinepdbkgeaaRefg
import Derived.Test.YthneinepdbkgeaaEach
import Derived.Deep.CutBlock
import Derived.Deep.CutRange
namespace Go.Proofs.Ythneinepdbkgeaa
open Go.RowKit Go.HK
set_option linter.unusedVariables false
set_option linter.unusedSimpArgs false
set_option linter.unusedSectionVars false
/-- What the loops of lastly keep: the tree's box, the result's cell, the row that is sorted. -/
structure LaW (w : World) (G R : Nat) (bx : Array Value) (g n c : Nat) (l : List Nat) (wr : World) : Prop where
  below : Below w.heap.size w wr
  box : wr.heap[G]? = some (.cells bx 63 (0, 0))
  res : wr.heap[R]? = some (.cells #[.slice none 0 0, .int .i64 0, .slice none 0 0] 63 (0, 0))
  row : wr.ownsRow (w.heap.size + 2) 3 1 (.slice (some ⟨g, 0, none⟩) n c) n (ints l)
theorem LaW.up {w wr wr' : World} {G R g n c : Nat} {bx : Array Value} {l : List Nat} (h : LaW w G R bx g n c l wr) (hb : Below wr.heap.size wr wr') : LaW w G R bx g n c l wr' :=
  ⟨h.below.trans (hb.mono h.below.size), blk_up9 hb h.box, blk_up9 hb h.res, own_below9 h.row hb⟩
theorem LaW.set {w wr : World} {G R g n c : Nat} {bx : Array Value} {l : List Nat} (h : LaW w G R bx g n c l wr) (hG : G < w.heap.size + 2) (hR : R < w.heap.size + 2) (i x : Nat) : LaW w G R bx g n c (l.set i x) (wr.setCell ⟨g, i, none⟩ (.int .i64 (x : Int))) := by
  have hg := own_ge h.row g rfl
  refine ⟨(Frm.setCell (F := fun j => w.heap.size ≤ j) (Frm.refl _ wr) (p := ⟨g, i, none⟩) (.inl (by show w.heap.size ≤ g; omega)) _).below h.below.size (fun _ hk => hk) |> h.below.trans, HK.blk_set_other h.box (by show G ≠ g; omega) _, HK.blk_set_other h.res (by show R ≠ g; omega) _, ?_⟩
  have h1 := (h.row.stored i (.int .i64 (x : Int))).1
  have e1 : ints (l.set i x) = (ints l).set i (.int .i64 (x : Int)) := by simp [ints, List.map_set]
  rw [e1]
  exact h1
theorem LaW.cell {w wr : World} {G R g n c : Nat} {bx : Array Value} {l : List Nat} (h : LaW w G R bx g n c l wr) {i x : Nat} (hx : l[i]? = some x) (hi : i < n) : wr.cell? ⟨g, i, none⟩ = some (.int .i64 (x : Int)) := by
  rw [h.row.cellAt i (by omega)]; simp [ints, hx]
/-- A drawn world. -/
theorem LaW.drew {w wr : World} {G R g n c : Nat} {bx : Array Value} {l : List Nat} (h : LaW w G R bx g n c l wr) : LaW w G R bx g n c l wr.drew := h.up ⟨rfl, rfl, rfl, Nat.le_refl _, fun _ _ => rfl⟩
theorem LaW.drewN {w wr : World} {G R g n c : Nat} {bx : Array Value} {l : List Nat} (h : LaW w G R bx g n c l wr) (d : Nat) : LaW w G R bx g n c l (wr.drewN d) := h.up ⟨rfl, rfl, rfl, Nat.le_refl _, fun _ _ => rfl⟩
def RetLast (w : World) (nodes : List Go.HK.HN) (ge nl ce now n : Nat) (went : List Nat) (e : Ending) (w' : World) : Prop :=
  ∃ l g c, e = .returned (.agg #[.slice (some ⟨ge, 0, none⟩) nl ce, .int .i64 (now : Int), .slice (some ⟨g, 0, none⟩) (n + 1) c]) ∧ l.length = n ∧ (∀ x, x ∈ l ↔ x ∈ went) ∧ Ord (wayL nodes) l n ∧ RowAt w' g (n + 1) (l ++ [now]) ∧ w.heap.size ≤ g ∧ Below w.heap.size w w'
set_option maxRecDepth 100000 in
set_option maxHeartbeats 8000000 in
theorem rlastly_any {nodes : List Go.HK.HN} {z : Nat} (h : WF nodes z) (w : World) (ge ce gw gc now n : Nat) (went : List Nat) (he : EntsAt w ge (ents nodes)) (hg : RowAt w gw n went) (hw : ∀ x ∈ went, x < nodes.length) (hn0 : 0 < n) (hwl : n ≤ 1000) :
    Calls Try.prog 51 #[.agg #[.slice (some ⟨ge, 0, none⟩) nodes.length ce, .int .i64 (now : Int), .slice (some ⟨gw, 0, none⟩) n gc]] w (RetLast w nodes ge nodes.length ce now n went) := by
  have hway := fun (x : Nat) (hx : x < nodes.length) => rway_any h ge ce n gc (some ⟨gw, 0, none⟩) (now : Int) (x + 1) (x : Int) (by omega) (by omega) (by omega)
  have hwl2 := fun (x : Nat) (hx : x < nodes.length) => wayL_len9 h hx
  have hwp := fun (x : Nat) (hx : x < nodes.length) => wayL_pos h hx
  unfold WayOk RetS at hway
  simp only [wayI_nat] at hway
  obtain ⟨nl, hnl⟩ : ∃ nl, nl = nodes.length := ⟨_, rfl⟩
  obtain ⟨G, hG⟩ : ∃ G, G = w.heap.size := ⟨_, rfl⟩
  obtain ⟨R, hR⟩ : ∃ R, R = w.heap.size + 1 := ⟨_, rfl⟩
  obtain ⟨wy, hwy⟩ : ∃ wy, wy = wayL nodes := ⟨_, rfl⟩
  rw [← hnl] at hway hwl2 hwp hw ⊢
  rw [← hwy] at hway hwl2 hwp
  obtain ⟨w2, hw2⟩ : ∃ w2, w2 = (w.alloc (.cells #[.slice (some ⟨ge, 0, none⟩) nl ce, .int .i64 (now : Int), .slice (some ⟨gw, 0, none⟩) n gc] 63)).alloc (.cells #[.slice none 0 0, .int .i64 0, .slice none 0 0] 63) := ⟨_, rfl⟩
  have hB2 : Below w.heap.size w w2 := by rw [hw2]; exact ((Below.refl _ w).alloc (Nat.le_refl _) _).alloc (by simp) _
  have hX2 : w2.heap[G]? = some (.cells #[.slice (some ⟨ge, 0, none⟩) nl ce, .int .i64 (now : Int), .slice (some ⟨gw, 0, none⟩) n gc] 63 (0, 0)) := by rw [hw2, hG]; exact HK.blk_alloc (HK.blk_new _ _) _
  have hR2 : w2.heap[R]? = some (.cells #[.slice none 0 0, .int .i64 0, .slice none 0 0] 63 (0, 0)) := by rw [hw2, hR]; exact blk_new19 _ _ _
  have hs2 : w2.heap.size = w.heap.size + 2 := by rw [hw2]; simp
  have x2 : w2.cell? ⟨G, 2, none⟩ = some (.slice (some ⟨gw, 0, none⟩) n gc) := HK.blk_cell hX2 2
  have HE := Lib.hid he
  have HGW := Lib.hid (hg.below hB2 (Nat.le_refl _))
  have HX2 := Lib.hid hX2
  have HR2 := Lib.hid hR2
  have HB2 := Lib.hid hB2
  have HW2 := Lib.hid hw2
  have HS2 := Lib.hid hs2
  have HG := Lib.hid hG
  have HR := Lib.hid hR
  have HWY := Lib.hid hwy
  have HWAY := Lib.hid hway
  have HWL := Lib.hid hwl2
  have HWP := Lib.hid hwp
  have HWM := Lib.hid hw
  clear hX2 hR2 hB2 hw2 hs2 hG hR hnl hway hwl2 hwp hw he hg h hwy
  go_enter Try.func51, Try.ntmps51
  go_upto_region 1 with (fail)
  rw [← HW2.out, ← HR.out, ← HG.out]
  have hltG := HK.blk_lt HX2.out
  have e0 : G ≠ w2.heap.size := by omega
  have e2 : w2.heap.size ≠ G := by omega
  go_upto_region 2 with (
    at_builtin
    refine wpList_app_any rfl elem25 _ _ rfl (.slice (some ⟨w2.heap.size, 0, none⟩) 0 0) w2.heap.size 0 [] rfl (empty_row w2 3 1) ⟨gw, 0, none⟩ n gc (ints went) rfl (by have := HGW.out.len; simp [ints]; omega) (row_addr (HGW.out.below ((Below.refl w2.heap.size w2).alloc (Nat.le_refl _) _) (Nat.le_refl _))) (ints_one _) (by simp only [maxLen]; omega) (by omega) (by simp) ?_
    intro v3 w3 hown hgrow hnil hat)
  rw [Nat.zero_add] at hown
  obtain ⟨g, c, rfl, hg3, hl3⟩ := own_form9 hown hn0
  have hB3 : Below w2.heap.size w2 w3 := ((Below.refl w2.heap.size w2).alloc (Nat.le_refl _) (.cells #[] 3)).grown hgrow (by simp) (fun k hk => by have h2 : w2.heap.size = k := Option.some.inj hk; omega)
  obtain ⟨bx, hbx⟩ : ∃ bx : Array Value, bx = #[.slice (some ⟨ge, 0, none⟩) nl ce, .int .i64 (now : Int), .slice (some ⟨gw, 0, none⟩) n gc] := ⟨_, rfl⟩
  have hLa : LaW w G R bx g n c went w3 := by
    rw [hbx]
    refine ⟨HB2.out.trans (hB3.mono HB2.out.size), blk_up9 hB3 HX2.out, blk_up9 hB3 HR2.out, ?_⟩
    rw [← HS2.out]
    exact hown
  have hGl : G < w.heap.size + 2 := by have := HG.out; omega
  have hRl : R < w.heap.size + 2 := by have := HR.out; omega
  have hE3 : EntsAt w3 ge (ents nodes) := HE.out.below (HB2.out.trans (hB3.mono HB2.out.size)) (Nat.le_refl _)
  have HE3 := Lib.hid hE3
  have HLa := Lib.hid hLa
  have HGl := Lib.hid hGl
  have HRl := Lib.hid hRl
  have HBX := Lib.hid hbx
  clear hown hg3 hB3 hLa hGl hRl hE3 hbx hgrow hat hnil x2
  go_wp2_with (fail)
  go_loopw [4] (fun v wr => ∃ (i : Nat) (l : List Nat), i ≤ n ∧ v = .int .i64 i ∧ LaW w G R bx g n c l wr ∧ l.length = n ∧ Hid (∀ x, x ∈ l ↔ x ∈ went) ∧ Hid (Ord wy l i)) (fun v _ => n - (intOf v).toNat)
  case atStart => exact ⟨0, went, Nat.zero_le _, rfl, HLa.out, HGW.out.len, Lib.hid (fun x => Iff.rfl), Lib.hid (fun a b x y h => absurd h (by omega))⟩
  case round =>
    obtain ⟨i, l, hi, rfl, hL, hll, HM, HO⟩ := hrel
    have HL := Lib.hid hL
    have HLL := Lib.hid hll
    clear hL hll
    have b0 : (0 : Int) ≤ (i : Int) := by omega
    by_cases hin : (i : Int) < (n : Int)
    · go_wp2_with (fail)
      go_loopw [5] (fun v wr => ∃ (k : Nat) (l : List Nat), i < k ∧ k ≤ n ∧ v = .int .i64 k ∧ LaW w G R bx g n c l wr ∧ l.length = n ∧ Hid (∀ x, x ∈ l ↔ x ∈ went) ∧ Hid (OrdK wy l i k)) (fun v _ => n - (intOf v).toNat)
      case atStart => exact ⟨i + 1, l, by omega, by omega, by go_num, HL.out, HLL.out, HM, Lib.hid (OrdK.start HO.out)⟩
      case round =>
        obtain ⟨k, l2, hik, hkn, rfl, hL2, hll2, HM2, HO2⟩ := hrel
        have b1 : (0 : Int) ≤ (k : Int) := by omega
        by_cases hk : (k : Int) < (n : Int)
        · obtain ⟨xa, hx⟩ : ∃ x, l2[i]? = some x := ⟨_, List.getElem?_eq_getElem (by omega)⟩
          obtain ⟨ya, hy⟩ : ∃ y, l2[k]? = some y := ⟨_, List.getElem?_eq_getElem (by omega)⟩
          have hxl : xa < nl := HWM.out xa ((HM2.out xa).1 (List.mem_of_getElem? hx))
          have hyl : ya < nl := HWM.out ya ((HM2.out ya).1 (List.mem_of_getElem? hy))
          have hEr : EntsAt wr ge (ents nodes) := HE.out.below hL2.below (Nat.le_refl _)
          have hcy := fun W (hB : Below wr.heap.size wr W) => HWAY.out ya hyl W (hEr.below hB (Nat.le_refl _))
          have hcx := fun W (hB : Below wr.heap.size wr W) => HWAY.out xa hxl W (hEr.below hB (Nat.le_refl _))
          have hpy := HWP.out ya hyl
          have hpx := HWP.out xa hxl
          have hly := HWL.out ya hyl
          have hlx := HWL.out xa hxl
          obtain ⟨ly, hlye⟩ : ∃ ly, ly = (wy ya).length := ⟨_, rfl⟩
          obtain ⟨lx, hlxe⟩ : ∃ lx, lx = (wy xa).length := ⟨_, rfl⟩
          rw [← hlye] at hpy hly hcy
          rw [← hlxe] at hpx hlx hcx
          have HCY := Lib.hid hcy
          have HCX := Lib.hid hcx
          have HLY := Lib.hid hlye
          have HLX := Lib.hid hlxe
          have HX := Lib.hid hx
          have HY := Lib.hid hy
          have HL2 := Lib.hid hL2
          have HLL2 := Lib.hid hll2
          have b4 : (i : Int) < (n : Int) := hin
          have b5 : (k : Int) < (n : Int) := hk
          clear hx hy hL2 hll2 hEr hlye hlxe hxl hyl hcy hcx
          go_upto_region 8 with (fail)
          go_cut [36] from 18 to 50 (fun v wx => v = .bool (ahd (wy ya) (wy xa)) ∧ LaW w G R bx g n c l2 wx)
          case first =>
            refine Go.RE.wp_region_each [24, 25, 26, 27, 28, 29, 30, 31, 32, 33, 34, 35, 36] (fun L x W => (Below wr.heap.size wr W) ∧ (L 0 = true → x 24 = .agg #[.slice (some ⟨ge, 0, none⟩) nl ce, .int .i64 (now : Int), .slice (some ⟨gw, 0, none⟩) n gc]) ∧ (L 1 = true → x 25 = .slice (some ⟨g, 0, none⟩) n c) ∧ (L 2 = true → x 26 = .int .i64 (k : Int)) ∧ (L 3 = true → x 27 = .pointer (some ⟨g, k, none⟩)) ∧ (L 4 = true → x 28 = .int .i64 (ya : Int)) ∧ (L 5 = true → ∃ gy cy, x 29 = .slice (some ⟨gy, 0, none⟩) ly cy ∧ RowAt W gy ly (wy ya)) ∧ (L 6 = true → x 30 = .agg #[.slice (some ⟨ge, 0, none⟩) nl ce, .int .i64 (now : Int), .slice (some ⟨gw, 0, none⟩) n gc]) ∧ (L 7 = true → x 31 = .slice (some ⟨g, 0, none⟩) n c) ∧ (L 8 = true → x 32 = .int .i64 (i : Int)) ∧ (L 9 = true → x 33 = .pointer (some ⟨g, i, none⟩)) ∧ (L 10 = true → x 34 = .int .i64 (xa : Int)) ∧ (L 11 = true → ∃ gx cx, x 35 = .slice (some ⟨gx, 0, none⟩) lx cx ∧ RowAt W gx lx (wy xa)) ∧ (L 12 = true → x 36 = .bool (ahd (wy ya) (wy xa)))) (by kernel_rfl) (by kernel_rfl) (by kernel_rfl) ?_ ((Go.RE.Each.cons ?_ (Go.RE.Each.cons ?_ (Go.RE.Each.cons ?_ (Go.RE.Each.cons ?_ (Go.RE.Each.cons ?_ (Go.RE.Each.cons ?_ (Go.RE.Each.cons ?_ (Go.RE.Each.cons ?_ (Go.RE.Each.cons ?_ (Go.RE.Each.cons ?_ (Go.RE.Each.cons ?_ (Go.RE.Each.cons ?_ (Go.RE.Each.cons ?_ Go.RE.Each.nil)))))))))))))) ?_
            · exact fun x => ⟨(Below.refl _ wr).trans ⟨rfl, rfl, rfl, Nat.le_refl _, fun _ _ => rfl⟩, fun h => (by cases h), fun h => (by cases h), fun h => (by cases h), fun h => (by cases h), fun h => (by cases h), fun h => (by cases h), fun h => (by cases h), fun h => (by cases h), fun h => (by cases h), fun h => (by cases h), fun h => (by cases h), fun h => (by cases h), fun h => (by cases h)⟩
            · intro L x a w K hL hd hf hx hΦ hK
              obtain ⟨hI, f0, f1, f2, f3, f4, f5, f6, f7, f8, f9, f10, f11, f12⟩ := hΦ
              have e1 : a.tmps[1]? = some (.pointer (some ⟨G, 0, none⟩)) := hf 1 (of_decide_eq_true (by kernel_rfl))
              clear hf hx hd
              have hbx := (HL2.out.up hI).box
              rw [HBX.out] at hbx
              have c0 := HK.blk_cell hbx 0
              have c1 := HK.blk_cell hbx 1
              have c2 := HK.blk_cell hbx 2
              simp only [List.getElem?_toArray, List.getElem?_cons_succ, List.getElem?_cons_zero] at c0 c1 c2
              go_simp
              refine hK _ _ ?_
              exact ⟨hI, fun _ => rfl, fun h => f1 h, fun h => f2 h, fun h => f3 h, fun h => f4 h, fun h => f5 h, fun h => f6 h, fun h => f7 h, fun h => f8 h, fun h => f9 h, fun h => f10 h, fun h => f11 h, fun h => f12 h⟩
            · intro L x a w K hL hd hf hx hΦ hK
              obtain ⟨hI, f0, f1, f2, f3, f4, f5, f6, f7, f8, f9, f10, f11, f12⟩ := hΦ
              have e3 : a.tmps[3]? = some (.slice (some ⟨g, 0, none⟩) n c) := hf 3 (of_decide_eq_true (by kernel_rfl))
              clear hf hx hd
              go_simp
              refine hK _ _ ?_
              exact ⟨hI, fun h => f0 h, fun _ => rfl, fun h => f2 h, fun h => f3 h, fun h => f4 h, fun h => f5 h, fun h => f6 h, fun h => f7 h, fun h => f8 h, fun h => f9 h, fun h => f10 h, fun h => f11 h, fun h => f12 h⟩
            · intro L x a w K hL hd hf hx hΦ hK
              obtain ⟨hI, f0, f1, f2, f3, f4, f5, f6, f7, f8, f9, f10, f11, f12⟩ := hΦ
              have e5 : a.tmps[5]? = some (.int .i64 (k : Int)) := hf 5 (of_decide_eq_true (by kernel_rfl))
              clear hf hx hd
              go_simp
              refine hK _ _ ?_
              exact ⟨hI, fun h => f0 h, fun h => f1 h, fun _ => rfl, fun h => f3 h, fun h => f4 h, fun h => f5 h, fun h => f6 h, fun h => f7 h, fun h => f8 h, fun h => f9 h, fun h => f10 h, fun h => f11 h, fun h => f12 h⟩
            · intro L x a w K hL hd hf hx hΦ hK
              obtain ⟨hI, f0, f1, f2, f3, f4, f5, f6, f7, f8, f9, f10, f11, f12⟩ := hΦ
              have d1 := f1 (hd 1 (by kernel_rfl))
              have e25 : a.tmps[25]? = some (x 25) := hx 1 _ 25 rfl rfl (hd 1 (by kernel_rfl))
              have d2 := f2 (hd 2 (by kernel_rfl))
              have e26 : a.tmps[26]? = some (x 26) := hx 2 _ 26 rfl rfl (hd 2 (by kernel_rfl))
              clear hf hx hd
              rw [d1] at e25
              rw [d2] at e26
              go_simp
              refine hK _ _ ?_
              exact ⟨hI, fun h => f0 h, fun h => f1 h, fun h => f2 h, fun _ => rfl, fun h => f4 h, fun h => f5 h, fun h => f6 h, fun h => f7 h, fun h => f8 h, fun h => f9 h, fun h => f10 h, fun h => f11 h, fun h => f12 h⟩
            · intro L x a w K hL hd hf hx hΦ hK
              obtain ⟨hI, f0, f1, f2, f3, f4, f5, f6, f7, f8, f9, f10, f11, f12⟩ := hΦ
              have d3 := f3 (hd 3 (by kernel_rfl))
              have e27 : a.tmps[27]? = some (x 27) := hx 3 _ 27 rfl rfl (hd 3 (by kernel_rfl))
              clear hf hx hd
              rw [d3] at e27
              have c0 := (HL2.out.up hI).cell HY.out (by omega)
              go_simp
              refine hK _ _ ?_
              exact ⟨hI, fun h => f0 h, fun h => f1 h, fun h => f2 h, fun h => f3 h, fun _ => rfl, fun h => f5 h, fun h => f6 h, fun h => f7 h, fun h => f8 h, fun h => f9 h, fun h => f10 h, fun h => f11 h, fun h => f12 h⟩
            · intro L x a w K hL hd hf hx hΦ hK
              obtain ⟨hI, f0, f1, f2, f3, f4, f5, f6, f7, f8, f9, f10, f11, f12⟩ := hΦ
              have d0 := f0 (hd 0 (by kernel_rfl))
              have e24 : a.tmps[24]? = some (x 24) := hx 0 _ 24 rfl rfl (hd 0 (by kernel_rfl))
              have d4 := f4 (hd 4 (by kernel_rfl))
              have e28 : a.tmps[28]? = some (x 28) := hx 4 _ 28 rfl rfl (hd 4 (by kernel_rfl))
              clear hf hx hd
              rw [d0] at e24
              rw [d4] at e28
              go_simp
              go_at_call 55
              refine (HCY.out w hI).mono ?_
              rintro e w' ⟨v, rfl, hv, hB8⟩
              obtain ⟨g8, c8, rfl, _, _⟩ := own_form9 hv hpy
              simp only
              refine hK _ _ ?_
              exact ⟨hI.trans (hB8.mono hI.size), fun h => f0 h, fun h => f1 h, fun h => f2 h, fun h => f3 h, fun h => f4 h, fun _ => ⟨g8, c8, rfl, RowAt.of hv HLY.out.symm⟩, fun h => f6 h, fun h => f7 h, fun h => f8 h, fun h => f9 h, fun h => f10 h, fun h => (f11 h).imp fun _ h => h.imp fun _ h => ⟨h.1, h.2.below hB8 (Nat.le_refl _)⟩, fun h => f12 h⟩
            · intro L x a w K hL hd hf hx hΦ hK
              obtain ⟨hI, f0, f1, f2, f3, f4, f5, f6, f7, f8, f9, f10, f11, f12⟩ := hΦ
              have e1 : a.tmps[1]? = some (.pointer (some ⟨G, 0, none⟩)) := hf 1 (of_decide_eq_true (by kernel_rfl))
              clear hf hx hd
              have hbx := (HL2.out.up hI).box
              rw [HBX.out] at hbx
              have c0 := HK.blk_cell hbx 0
              have c1 := HK.blk_cell hbx 1
              have c2 := HK.blk_cell hbx 2
              simp only [List.getElem?_toArray, List.getElem?_cons_succ, List.getElem?_cons_zero] at c0 c1 c2
              go_simp
              refine hK _ _ ?_
              exact ⟨hI, fun h => f0 h, fun h => f1 h, fun h => f2 h, fun h => f3 h, fun h => f4 h, fun h => f5 h, fun _ => rfl, fun h => f7 h, fun h => f8 h, fun h => f9 h, fun h => f10 h, fun h => f11 h, fun h => f12 h⟩
            · intro L x a w K hL hd hf hx hΦ hK
              obtain ⟨hI, f0, f1, f2, f3, f4, f5, f6, f7, f8, f9, f10, f11, f12⟩ := hΦ
              have e3 : a.tmps[3]? = some (.slice (some ⟨g, 0, none⟩) n c) := hf 3 (of_decide_eq_true (by kernel_rfl))
              clear hf hx hd
              go_simp
              refine hK _ _ ?_
              exact ⟨hI, fun h => f0 h, fun h => f1 h, fun h => f2 h, fun h => f3 h, fun h => f4 h, fun h => f5 h, fun h => f6 h, fun _ => rfl, fun h => f8 h, fun h => f9 h, fun h => f10 h, fun h => f11 h, fun h => f12 h⟩
            · intro L x a w K hL hd hf hx hΦ hK
              obtain ⟨hI, f0, f1, f2, f3, f4, f5, f6, f7, f8, f9, f10, f11, f12⟩ := hΦ
              have e4 : a.tmps[4]? = some (.int .i64 (i : Int)) := hf 4 (of_decide_eq_true (by kernel_rfl))
              clear hf hx hd
              go_simp
              refine hK _ _ ?_
              exact ⟨hI, fun h => f0 h, fun h => f1 h, fun h => f2 h, fun h => f3 h, fun h => f4 h, fun h => f5 h, fun h => f6 h, fun h => f7 h, fun _ => rfl, fun h => f9 h, fun h => f10 h, fun h => f11 h, fun h => f12 h⟩
            · intro L x a w K hL hd hf hx hΦ hK
              obtain ⟨hI, f0, f1, f2, f3, f4, f5, f6, f7, f8, f9, f10, f11, f12⟩ := hΦ
              have d7 := f7 (hd 7 (by kernel_rfl))
              have e31 : a.tmps[31]? = some (x 31) := hx 7 _ 31 rfl rfl (hd 7 (by kernel_rfl))
              have d8 := f8 (hd 8 (by kernel_rfl))
              have e32 : a.tmps[32]? = some (x 32) := hx 8 _ 32 rfl rfl (hd 8 (by kernel_rfl))
              clear hf hx hd
              rw [d7] at e31
              rw [d8] at e32
              go_simp
              refine hK _ _ ?_
              exact ⟨hI, fun h => f0 h, fun h => f1 h, fun h => f2 h, fun h => f3 h, fun h => f4 h, fun h => f5 h, fun h => f6 h, fun h => f7 h, fun h => f8 h, fun _ => rfl, fun h => f10 h, fun h => f11 h, fun h => f12 h⟩
            · intro L x a w K hL hd hf hx hΦ hK
              obtain ⟨hI, f0, f1, f2, f3, f4, f5, f6, f7, f8, f9, f10, f11, f12⟩ := hΦ
              have d9 := f9 (hd 9 (by kernel_rfl))
              have e33 : a.tmps[33]? = some (x 33) := hx 9 _ 33 rfl rfl (hd 9 (by kernel_rfl))
              clear hf hx hd
              rw [d9] at e33
              have c0 := (HL2.out.up hI).cell HX.out (by omega)
              go_simp
              refine hK _ _ ?_
              exact ⟨hI, fun h => f0 h, fun h => f1 h, fun h => f2 h, fun h => f3 h, fun h => f4 h, fun h => f5 h, fun h => f6 h, fun h => f7 h, fun h => f8 h, fun h => f9 h, fun _ => rfl, fun h => f11 h, fun h => f12 h⟩
            · intro L x a w K hL hd hf hx hΦ hK
              obtain ⟨hI, f0, f1, f2, f3, f4, f5, f6, f7, f8, f9, f10, f11, f12⟩ := hΦ
              have d6 := f6 (hd 6 (by kernel_rfl))
              have e30 : a.tmps[30]? = some (x 30) := hx 6 _ 30 rfl rfl (hd 6 (by kernel_rfl))
              have d10 := f10 (hd 10 (by kernel_rfl))
              have e34 : a.tmps[34]? = some (x 34) := hx 10 _ 34 rfl rfl (hd 10 (by kernel_rfl))
              clear hf hx hd
              rw [d6] at e30
              rw [d10] at e34
              go_simp
              go_at_call 55
              refine (HCX.out w hI).mono ?_
              rintro e w' ⟨v, rfl, hv, hB8⟩
              obtain ⟨g8, c8, rfl, _, _⟩ := own_form9 hv hpx
              simp only
              refine hK _ _ ?_
              exact ⟨hI.trans (hB8.mono hI.size), fun h => f0 h, fun h => f1 h, fun h => f2 h, fun h => f3 h, fun h => f4 h, fun h => (f5 h).imp fun _ h => h.imp fun _ h => ⟨h.1, h.2.below hB8 (Nat.le_refl _)⟩, fun h => f6 h, fun h => f7 h, fun h => f8 h, fun h => f9 h, fun h => f10 h, fun _ => ⟨g8, c8, rfl, RowAt.of hv HLX.out.symm⟩, fun h => f12 h⟩
            · intro L x a w K hL hd hf hx hΦ hK
              obtain ⟨hI, f0, f1, f2, f3, f4, f5, f6, f7, f8, f9, f10, f11, f12⟩ := hΦ
              have d5 := f5 (hd 5 (by kernel_rfl))
              have e29 : a.tmps[29]? = some (x 29) := hx 5 _ 29 rfl rfl (hd 5 (by kernel_rfl))
              have d11 := f11 (hd 11 (by kernel_rfl))
              have e35 : a.tmps[35]? = some (x 35) := hx 11 _ 35 rfl rfl (hd 11 (by kernel_rfl))
              clear hf hx hd
              obtain ⟨gy, cy, hy5, hy6⟩ := d5
              obtain ⟨gx, cx, hx5, hx6⟩ := d11
              rw [hy5] at e29
              rw [hx5] at e35
              go_simp
              go_at_call 62
              refine (rahead_any w gy ly cy gx lx cx (wy ya) (wy xa) hy6 hx6 (by omega) (by omega)).mono ?_
              rintro e w' ⟨rfl, hB8⟩
              simp only
              refine hK _ _ ?_
              exact ⟨hI.trans (hB8.mono hI.size), fun h => f0 h, fun h => f1 h, fun h => f2 h, fun h => f3 h, fun h => f4 h, fun h => (f5 h).imp fun _ h => h.imp fun _ h => ⟨h.1, h.2.below hB8 (Nat.le_refl _)⟩, fun h => f6 h, fun h => f7 h, fun h => f8 h, fun h => f9 h, fun h => f10 h, fun h => (f11 h).imp fun _ h => h.imp fun _ h => ⟨h.1, h.2.below hB8 (Nat.le_refl _)⟩, fun _ => rfl⟩
            · rintro x W ⟨hI, f0, f1, f2, f3, f4, f5, f6, f7, f8, f9, f10, f11, f12⟩
              have h12 := f12 (by kernel_rfl)
              simp only [Exit.then]
              go_step
              go_meet
              case rel => exact ⟨h12, HL2.out.up hI⟩
          case rest =>
            obtain ⟨rfl, hL3⟩ := hcut
            by_cases hah : ahd (wy ya) (wy xa) = true
            · rw [hah]
              have cx := hL3.cell HX.out (by omega)
              have cy := hL3.cell HY.out (by omega)
              have fx : wc.frozen? ⟨g, i, none⟩ = false := hL3.row.frozenAt i
              have fy : wc.frozen? ⟨g, k, none⟩ = false := hL3.row.frozenAt k
              have cab : ∀ v, (wc.drew.setCell ⟨g, i, none⟩ v).cell? ⟨g, k, none⟩ = some (.int .i64 (ya : Int)) := fun v => by
                rw [World.cell?_setCell_other]
                · exact cy
                · intro h; cases h; omega
              have cab' : ∀ v, (wc.setCell ⟨g, i, none⟩ v).cell? ⟨g, k, none⟩ = some (.int .i64 (ya : Int)) := fun v => by
                rw [World.cell?_setCell_other]
                · exact cy
                · intro h; cases h; omega
              have HL3 := Lib.hid hL3
              have HAH := Lib.hid hah
              clear hL3
              go_step
              go_wp2_with (fail)
              go_region
              go_step
              go_wp2_with (fail)
              go_roundw
              case rel =>
                refine ⟨k + 1, (l2.set i ya).set k xa, by omega, by omega, by go_num, ((HL3.out.set HGl.out HRl.out i ya).set HGl.out HRl.out k xa).drew, by rw [List.length_set, List.length_set]; exact HLL2.out, Lib.hid (fun z => (swap_mem hik HX.out HY.out z).trans (HM2.out z)), Lib.hid (OrdK.swap HO2.out hik HX.out HY.out HAH.out)⟩
              case measure => simp [intOf]; omega
            · have hah2 : ahd (wy ya) (wy xa) = false := by simpa using hah
              rw [hah2]
              have HL3 := Lib.hid hL3
              have HAH := Lib.hid hah2
              clear hL3 hah hah2
              go_step
              go_wp2_with (fail)
              go_roundw
              case rel => exact ⟨k + 1, l2, by omega, by omega, by go_num, HL3.out, HLL2.out, HM2, Lib.hid (OrdK.next HO2.out hik HX.out HY.out HAH.out)⟩
              case measure => simp [intOf]; omega
        · obtain rfl : k = n := by omega
          have HL2 := Lib.hid hL2
          have HLL2 := Lib.hid hll2
          clear hL2 hll2
          go_wp2_with (fail)
          go_roundw
          case rel => exact ⟨i + 1, l2, by omega, by go_num, HL2.out, HLL2.out, HM2, Lib.hid (OrdK.done HO2.out (by have := HLL2.out; omega))⟩
          case measure => simp [intOf]; omega
    · obtain rfl : i = n := by omega
      have hbox := HL.out.box
      rw [HBX.out] at hbox
      have x0 := HK.blk_cell hbox 0
      have x1 := HK.blk_cell hbox 1
      have x2 := HK.blk_cell hbox 2
      have xf := fun j => HK.blk_frozen hbox j
      have hltG := HK.blk_lt hbox
      have hltR := HK.blk_lt HL.out.res
      have e0 : G ≠ wr.heap.size := by omega
      have e2 : wr.heap.size ≠ G := by omega
      have HBOX := Lib.hid hbox
      clear hbox
      go_wp2_with (
        at_builtin
        refine wpList_app1 rfl elem25 _ _ rfl (.slice (some ⟨g, 0, none⟩) i c) i (ints l) rfl (own_mono0 (HL.out.row.alloc _)) wr.heap.size 1 #[.int .i64 (now : Int)] rfl (HK.blk_new wr _) rfl (by simp [Value.oneCell']) (by simp only [maxLen]; omega) (by omega) ?_
        intro g4 c4 w4 hown4 hgrow4 hat4 hlt4
        have hg4 : w.heap.size + 2 ≤ g4 := by
          have hz := HL.out.below.size
          rcases hat4 with h | h
          · exact own_ge HL.out.row _ h
          · have h1 := own_ge HL.out.row g rfl
            have h2 := own_lt HL.out.row g rfl
            simp at h
            omega
        have hG4 := HK.blk_grown (HK.blk_alloc HBOX.out (.cells #[.int .i64 (now : Int)] 3)) hgrow4 (fun h => by have h2 : G = g := Option.some.inj h; have h3 := own_ge HL.out.row g rfl; have h4 := HGl.out; omega)
        have hR4 := HK.blk_grown (HK.blk_alloc HL.out.res (.cells #[.int .i64 (now : Int)] 3)) hgrow4 (fun h => by have h2 : R = g := Option.some.inj h; have h3 := own_ge HL.out.row g rfl; have h4 := HRl.out; omega)
        have hB4 : Below w.heap.size w w4 := (HL.out.below.alloc HL.out.below.size _).grown hgrow4 (by have := HL.out.below.size; simp; omega) (fun k hk => by have := own_ge HL.out.row k hk; omega)
        have HO4 := Lib.hid hown4
        have HG4 := Lib.hid hg4
        have HGB := Lib.hid hG4
        have HRB := Lib.hid hR4
        have HB4 := Lib.hid hB4
        have q0 := HK.blk_cell hG4 0
        have q1 := HK.blk_cell hG4 1
        have q2 := HK.blk_cell hG4 2
        have qf := fun j => HK.blk_frozen hG4 j
        have r0 := HK.blk_cell hR4 0
        have r1 := HK.blk_cell hR4 1
        have r2 := HK.blk_cell hR4 2
        have rf := fun j => HK.blk_frozen hR4 j
        have eGR : G ≠ R := by have := HG.out; have := HR.out; omega
        have eRG : R ≠ G := fun h => eGR h.symm
        clear x0 x1 x2 xf hown4 hg4 hG4 hR4 hB4 hgrow4 hat4 hlt4)
      have eg4G : g4 ≠ G := by have := HG4.out; have := HGl.out; omega
      have eg4R : g4 ≠ R := by have := HG4.out; have := HRl.out; omega
      have hR5 : (w4.setCell ⟨G, 2, none⟩ (.slice (some ⟨g4, 0, none⟩) (i + 1) c4)).heap[R]? = some (.cells #[.slice none 0 0, .int .i64 0, .slice none 0 0] 63 (0, 0)) := HK.blk_set_other HRB.out (by show R ≠ G; exact eRG) _
      refine bodyPost_ret (results_cell_row (p := 2) (ty := 63) (by kernel_rfl) _ _ R 63 _ (0, 0) _ rfl (set3 hR5 _ _ _) Try.underlying63 rfl (by kernel_rfl)) rfl ?_
      have hl5 := HLL.out
      have hO5 := HK.owns_setCell (p := ⟨G, 2, none⟩) HO4.out (fun h => eg4G (Option.some.inj h)) (.slice (some ⟨g4, 0, none⟩) (i + 1) c4)
      have hf8 := set3_frm (w4.setCell ⟨G, 2, none⟩ (.slice (some ⟨g4, 0, none⟩) (i + 1) c4)) R (.slice (some ⟨ge, 0, none⟩) nl ce) (.int .i64 (now : Int)) (.slice (some ⟨g4, 0, none⟩) (i + 1) c4)
      have hO9 := hf8.owns hO5 (fun g e e2 => by have e3 : g4 = g := Option.some.inj e; have e4 : g = R := e2; omega)
      have e1 : ints (l ++ [now]) = ints l ++ [.int .i64 (now : Int)] := by simp [ints]
      refine ⟨l, g4, c4, rfl, hl5, HM.out, by rw [← HWY.out]; exact HO.out, RowAt.of (base := 0) (c := c4) (by rw [e1]; exact hO9) (by rw [List.length_append, List.length_singleton, hl5]), by have := HG4.out; omega, ?_⟩
      have hF5 : Frm (fun k => w.heap.size ≤ k) w (w4.setCell ⟨G, 2, none⟩ (.slice (some ⟨g4, 0, none⟩) (i + 1) c4)) := (Frm.of_below HB4.out _).setCell (.inl (by have := HG.out; show w.heap.size ≤ G; omega)) _
      exact (hF5.trans (hf8.mono (fun b e => by have e2 : b = R := e; have := HR.out; show w.heap.size ≤ b; omega))).below (Nat.le_refl _) (fun _ hk => hk)
end Go.Proofs.Ythneinepdbkgeaa
