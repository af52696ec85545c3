/- HistorySmall (10): the walk. smab.py prints this text (template smab.tpl). -/
import Derived.Test.YthneinepdbkgeaaSmaa
import Derived.Test.YthneinepdbkgeaaEach
import Derived.Deep.CutBlock
import Derived.Deep.CutRange
namespace Go.Proofs.Ythneinepdbkgeaa
open Go.RowKit Go.HK
set_option linter.unusedVariables false
set_option linter.unusedSimpArgs false
set_option linter.unusedSectionVars false
def begD : List DoE := [⟨0, 0, 0, ⟨#[98]⟩, ⟨#[]⟩⟩, ⟨0, 0, 0, ⟨#[99]⟩, ⟨#[]⟩⟩, ⟨2, 0, 0, ⟨#[]⟩, ⟨#[]⟩⟩, ⟨0, 2, 0, ⟨#[100]⟩, ⟨#[]⟩⟩, ⟨4, 1, 0, ⟨#[]⟩, ⟨#[]⟩⟩]
def stpD : List DoE := [⟨0, 3, 0, ⟨#[120]⟩, ⟨#[]⟩⟩, ⟨2, 0, 0, ⟨#[]⟩, ⟨#[]⟩⟩, ⟨3, 0, 0, ⟨#[]⟩, ⟨#[]⟩⟩, ⟨4, 2, 0, ⟨#[]⟩, ⟨#[]⟩⟩, ⟨6, 0, 1, ⟨#[]⟩, ⟨#[]⟩⟩]
theorem beg_ok : ∀ d ∈ begD, okD d := by
  intro d hd
  simp only [begD, List.mem_cons, List.not_mem_nil, or_false] at hd
  rcases hd with rfl | rfl | rfl | rfl | rfl <;> exact ⟨by decide, by decide, by decide⟩
set_option maxRecDepth 100000 in
set_option maxHeartbeats 8000000 in
theorem small_walk (w : World) : Calls Try.prog 10 #[] w (RetTr w) := by
  have HA := Lib.hid (fun W => awake_any W)
  go_enter Try.func10, Try.ntmps10
  go_upto_block 0 with (fail)
  obtain ⟨gb, hgb⟩ : ∃ gb, gb = w.heap.size := ⟨_, rfl⟩
  obtain ⟨gs, hgs⟩ : ∃ gs, gs = w.heap.size + 1 := ⟨_, rfl⟩
  obtain ⟨w2, hw2⟩ : ∃ w2, w2 = (w.alloc (.cells (dosFlat begD).toArray 74)).alloc (.cells (dosFlat stpD).toArray 74) := ⟨_, rfl⟩
  change Code.wp _ _ _ _ ((w.alloc (.cells (dosFlat begD).toArray 74)).alloc (.cells (dosFlat stpD).toArray 74))
  rw [← hw2, ← hgs, ← hgb]
  have hB2 : Below w.heap.size w w2 := by rw [hw2]; exact ((Below.refl _ w).alloc (Nat.le_refl _) _).alloc (by simp) _
  have hXb : w2.heap[gb]? = some (.cells (dosFlat begD).toArray 74 (0, 0)) := by rw [hw2, hgb]; exact HK.blk_alloc (HK.blk_new _ _) _
  have hXs : w2.heap[gs]? = some (.cells (dosFlat stpD).toArray 74 (0, 0)) := by rw [hw2, hgs]; exact blk_new19 _ _ _
  have hst0 : ∀ W, Below w2.heap.size w2 W → ∀ z, z < 5 → ∃ d, okD d ∧ W.cell? ⟨gs, z * 5, none⟩ = some (.int .u8 (d.kind : Int)) ∧ W.cell? ⟨gs, z * 5 + 1, none⟩ = some (.int .i64 d.n) ∧ W.cell? ⟨gs, z * 5 + 2, none⟩ = some (.int .i64 d.m) ∧ W.cell? ⟨gs, z * 5 + 3, none⟩ = some (.string d.state) ∧ W.cell? ⟨gs, z * 5 + 4, none⟩ = some (.string d.note) := by
    intro W hB z hz
    have hb := blk_up9 hB hXs
    obtain ⟨d, hd⟩ : ∃ d, stpD[z]? = some d := ⟨_, List.getElem?_eq_getElem (show z < stpD.length from hz)⟩
    have hj : ∀ j u, j < 5 → (doCells d)[j]? = some u → W.cell? ⟨gs, z * 5 + j, none⟩ = some u := fun j u hj hu => by
      rw [HK.blk_cell hb, List.getElem?_toArray, dosFlat_get stpD z j d hd hj]; exact hu
    refine ⟨d, ?_, hj 0 _ (by omega) rfl, hj 1 _ (by omega) rfl, hj 2 _ (by omega) rfl, hj 3 _ (by omega) rfl, hj 4 _ (by omega) rfl⟩
    have hm := List.mem_of_getElem? hd
    simp only [stpD, List.mem_cons, List.not_mem_nil, or_false] at hm
    rcases hm with rfl | rfl | rfl | rfl | rfl <;> exact ⟨by decide, by decide, by decide⟩
  have HST := Lib.hid hst0
  have HXb := Lib.hid hXb
  have HB2 := Lib.hid hB2
  clear hB2 hXb hXs hst0 hw2 hgb hgs
  go_cut [3, 4] from 33 to 73 (fun a b wx => Below w.heap.size w wx)
  case first =>
    go_wp2_with (fail)
    go_loopw [3] (fun i wr => ∃ k : Nat, k ≤ 625 ∧ i = .int .i64 k ∧ Below w2.heap.size w2 wr) (fun i _ => 625 - (intOf i).toNat)
    case atStart => exact ⟨0, by omega, rfl, Below.refl _ _⟩
    case round =>
      obtain ⟨k, hk, rfl, hBr⟩ := hrel
      have HBr := Lib.hid hBr
      clear hBr
      by_cases hkn : (k : Int) < 625
      · have b0 : (0 : Int) ≤ (k : Int) := by omega
        go_upto_region 6 with (fail)
        go_cut [4] from 37 to 70 (fun v wx => ∃ g c ds, v = .slice (some ⟨g, 0, none⟩) 11 c ∧ ds.length = 11 ∧ (∀ d ∈ ds, okD d) ∧ wx.ownsRow w2.heap.size 74 5 (.slice (some ⟨g, 0, none⟩) 11 c) 11 (dosFlat ds) ∧ Below w2.heap.size w2 wx)
        case first =>
          as_aux_lemma =>
            have hst := HST.out
            have hbg : ∀ W, Below w2.heap.size w2 W → ∀ j u, (dosFlat begD)[j]? = some u → W.cell? ((⟨gb, 0, none⟩ : Addr).add j) = some u := fun W hB j u hj => by rw [addr_add0, HK.blk_cell (blk_up9 hB HXb.out), List.getElem?_toArray]; exact hj
            refine Go.RE.wp_region_each [37, 38, 39, 40, 41, 42, 43, 44, 45, 46, 47, 48, 49, 50, 51, 52, 53, 54, 55, 56, 57, 58, 59, 60, 61, 62, 63, 64, 65, 66, 67, 68, 69, 70, 4] (fun L x W => (Below w2.heap.size w2 W) ∧ (L 0 = true → ∃ B, x 37 = .slice (some ⟨B, 0, none⟩) 0 0 ∧ B < W.heap.size ∧ (L 2 = true ∨ W.ownsRow w2.heap.size 74 5 (.slice (some ⟨B, 0, none⟩) 0 0) 0 [])) ∧ (L 1 = true → x 38 = .slice (some ⟨gb, 0, none⟩) 5 5) ∧ (L 2 = true → L 0 = true ∧ ∃ v, x 39 = v ∧ (L 33 = true ∨ W.ownsRow w2.heap.size 74 5 v 5 (dosFlat begD))) ∧ (L 3 = true → x 40 = .slice (some ⟨gs, 0, none⟩) 5 5) ∧ (L 4 = true → x 41 = .int .i64 (k : Int)) ∧ (L 5 = true → ∃ z : Nat, z < 5 ∧ x 42 = .int .i64 (z : Int)) ∧ (L 6 = true → ∃ z : Nat, z < 5 ∧ x 43 = .pointer (some ⟨gs, z * 5, none⟩)) ∧ (L 7 = true → ∃ d, okD d ∧ x 44 = .agg (doCells d).toArray) ∧ (L 8 = true → x 45 = .slice (some ⟨gs, 0, none⟩) 5 5) ∧ (L 9 = true → x 46 = .int .i64 (k : Int)) ∧ (L 10 = true → ∃ z : Nat, z < 625 ∧ x 47 = .int .i64 (z : Int)) ∧ (L 11 = true → ∃ z : Nat, z < 5 ∧ x 48 = .int .i64 (z : Int)) ∧ (L 12 = true → ∃ z : Nat, z < 5 ∧ x 49 = .pointer (some ⟨gs, z * 5, none⟩)) ∧ (L 13 = true → ∃ d, okD d ∧ x 50 = .agg (doCells d).toArray) ∧ (L 14 = true → x 51 = .slice (some ⟨gs, 0, none⟩) 5 5) ∧ (L 15 = true → x 52 = .int .i64 (k : Int)) ∧ (L 16 = true → ∃ z : Nat, z < 625 ∧ x 53 = .int .i64 (z : Int)) ∧ (L 17 = true → ∃ z : Nat, z < 5 ∧ x 54 = .int .i64 (z : Int)) ∧ (L 18 = true → ∃ z : Nat, z < 5 ∧ x 55 = .pointer (some ⟨gs, z * 5, none⟩)) ∧ (L 19 = true → ∃ d, okD d ∧ x 56 = .agg (doCells d).toArray) ∧ (L 20 = true → x 57 = .slice (some ⟨gs, 0, none⟩) 5 5) ∧ (L 21 = true → x 58 = .int .i64 (k : Int)) ∧ (L 22 = true → ∃ z : Nat, z < 5 ∧ x 59 = .int .i64 (z : Int)) ∧ (L 23 = true → ∃ z : Nat, z < 5 ∧ x 60 = .pointer (some ⟨gs, z * 5, none⟩)) ∧ (L 24 = true → ∃ d, okD d ∧ x 61 = .agg (doCells d).toArray) ∧ (L 25 = true → x 62 = .int .i64 (k : Int)) ∧ (L 26 = true → ∃ z : Nat, z < 625 ∧ x 63 = .int .i64 (z : Int)) ∧ (L 27 = true → x 64 = .int .i64 (k : Int)) ∧ (L 28 = true → ∃ z : Nat, z < 625 ∧ x 65 = .int .i64 (z : Int)) ∧ (L 29 = true → ∃ z : Nat, z < 625 ∧ x 66 = .int .i64 (z : Int)) ∧ (L 30 = true → ∃ d, okD d ∧ x 67 = .agg (doCells d).toArray) ∧ (L 31 = true → ∃ d, okD d ∧ x 68 = .agg (doCells d).toArray) ∧ (L 32 = true → ∃ B ds, x 69 = .slice (some ⟨B, 0, none⟩) 6 6 ∧ ds.length = 6 ∧ (∀ d ∈ ds, okD d) ∧ (L 0 = true → ∀ B', x 37 = .slice (some ⟨B', 0, none⟩) 0 0 → B' ≠ B) ∧ (L 33 = true ∨ W.heap[B]? = some (.cells (dosFlat ds).toArray 74 (0, 0)))) ∧ (L 33 = true → L 2 = true ∧ L 32 = true ∧ ∃ ds, ds.length = 11 ∧ (∀ d ∈ ds, okD d) ∧ W.ownsRow w2.heap.size 74 5 (x 70) 11 (dosFlat ds)) ∧ (L 34 = true → L 33 = true ∧ x 4 = x 70)) (by kernel_rfl) (by kernel_rfl) (by kernel_rfl) ?_ ((Go.RE.Each.cons ?_ (Go.RE.Each.cons ?_ (Go.RE.Each.cons ?_ (Go.RE.Each.cons ?_ (Go.RE.Each.cons ?_ (Go.RE.Each.cons ?_ (Go.RE.Each.cons ?_ (Go.RE.Each.cons ?_ (Go.RE.Each.cons ?_ (Go.RE.Each.cons ?_ (Go.RE.Each.cons ?_ (Go.RE.Each.cons ?_ (Go.RE.Each.cons ?_ (Go.RE.Each.cons ?_ (Go.RE.Each.cons ?_ (Go.RE.Each.cons ?_ (Go.RE.Each.cons ?_ (Go.RE.Each.cons ?_ (Go.RE.Each.cons ?_ (Go.RE.Each.cons ?_ (Go.RE.Each.cons ?_ (Go.RE.Each.cons ?_ (Go.RE.Each.cons ?_ (Go.RE.Each.cons ?_ (Go.RE.Each.cons ?_ (Go.RE.Each.cons ?_ (Go.RE.Each.cons ?_ (Go.RE.Each.cons ?_ (Go.RE.Each.cons ?_ (Go.RE.Each.cons ?_ (Go.RE.Each.cons ?_ (Go.RE.Each.cons ?_ (Go.RE.Each.cons ?_ (Go.RE.Each.cons ?_ (Go.RE.Each.cons ?_ Go.RE.Each.nil)))))))))))))))))))))))))))))))))))) ?_
            · exact fun x => ⟨HBr.out.trans ⟨rfl, rfl, rfl, Nat.le_refl _, fun _ _ => rfl⟩, fun h => (by cases h), fun h => (by cases h), fun h => (by cases h), fun h => (by cases h), fun h => (by cases h), fun h => (by cases h), fun h => (by cases h), fun h => (by cases h), fun h => (by cases h), fun h => (by cases h), fun h => (by cases h), fun h => (by cases h), fun h => (by cases h), fun h => (by cases h), fun h => (by cases h), fun h => (by cases h), fun h => (by cases h), fun h => (by cases h), fun h => (by cases h), fun h => (by cases h), fun h => (by cases h), fun h => (by cases h), fun h => (by cases h), fun h => (by cases h), fun h => (by cases h), fun h => (by cases h), fun h => (by cases h), fun h => (by cases h), fun h => (by cases h), fun h => (by cases h), fun h => (by cases h), fun h => (by cases h), fun h => (by cases h), fun h => (by cases h), fun h => (by cases h)⟩
            · intro L x a w K hL hd hf hx hΦ hK
              obtain ⟨hI, f0, f1, f2, f3, f4, f5, f6, f7, f8, f9, f10, f11, f12, f13, f14, f15, f16, f17, f18, f19, f20, f21, f22, f23, f24, f25, f26, f27, f28, f29, f30, f31, f32, f33, f34⟩ := hΦ
              clear hf hx hd
              go_simp
              refine hK _ _ ?_
              exact ⟨hI.alloc hI.size _, fun _ => ⟨_, rfl, by simp, .inr (own_mono9 (empty_row w 74 5) hI.size)⟩, fun h => f1 h, fun h => absurd (f2 h).1 (by rw [hL]; decide), fun h => f3 h, fun h => f4 h, fun h => f5 h, fun h => f6 h, fun h => f7 h, fun h => f8 h, fun h => f9 h, fun h => f10 h, fun h => f11 h, fun h => f12 h, fun h => f13 h, fun h => f14 h, fun h => f15 h, fun h => f16 h, fun h => f17 h, fun h => f18 h, fun h => f19 h, fun h => f20 h, fun h => f21 h, fun h => f22 h, fun h => f23 h, fun h => f24 h, fun h => f25 h, fun h => f26 h, fun h => f27 h, fun h => f28 h, fun h => f29 h, fun h => f30 h, fun h => f31 h, fun h => (f32 h).imp fun B h => h.imp fun ds h => ⟨h.1, h.2.1, h.2.2.1, fun _ B' e => by cases e; rcases h.2.2.2.2 with h9 | h9; exact absurd (f2 (f33 h9).1).1 (by rw [hL]; decide); have := HK.blk_lt h9; omega, h.2.2.2.2.imp id fun h2 => HK.blk_alloc h2 _⟩, fun h => absurd (f2 (f33 h).1).1 (by rw [hL]; decide), fun h => f34 h⟩
            · intro L x a w K hL hd hf hx hΦ hK
              obtain ⟨hI, f0, f1, f2, f3, f4, f5, f6, f7, f8, f9, f10, f11, f12, f13, f14, f15, f16, f17, f18, f19, f20, f21, f22, f23, f24, f25, f26, f27, f28, f29, f30, f31, f32, f33, f34⟩ := hΦ
              have e1 : a.tmps[1]? = some (.slice (some ⟨gb, 0, none⟩) 5 5) := hf 1 (of_decide_eq_true (by kernel_rfl))
              clear hf hx hd
              go_simp
              refine hK _ _ ?_
              exact ⟨hI, fun h => f0 h, fun _ => rfl, fun h => f2 h, fun h => f3 h, fun h => f4 h, fun h => f5 h, fun h => f6 h, fun h => f7 h, fun h => f8 h, fun h => f9 h, fun h => f10 h, fun h => f11 h, fun h => f12 h, fun h => f13 h, fun h => f14 h, fun h => f15 h, fun h => f16 h, fun h => f17 h, fun h => f18 h, fun h => f19 h, fun h => f20 h, fun h => f21 h, fun h => f22 h, fun h => f23 h, fun h => f24 h, fun h => f25 h, fun h => f26 h, fun h => f27 h, fun h => f28 h, fun h => f29 h, fun h => f30 h, fun h => f31 h, fun h => f32 h, fun h => f33 h, fun h => f34 h⟩
            · intro L x a w K hL hd hf hx hΦ hK
              obtain ⟨hI, f0, f1, f2, f3, f4, f5, f6, f7, f8, f9, f10, f11, f12, f13, f14, f15, f16, f17, f18, f19, f20, f21, f22, f23, f24, f25, f26, f27, f28, f29, f30, f31, f32, f33, f34⟩ := hΦ
              have d0 := f0 (hd 0 (by kernel_rfl))
              have e37 : a.tmps[37]? = some (x 37) := hx 0 _ 37 rfl rfl (hd 0 (by kernel_rfl))
              have d1 := f1 (hd 1 (by kernel_rfl))
              have e38 : a.tmps[38]? = some (x 38) := hx 1 _ 38 rfl rfl (hd 1 (by kernel_rfl))
              have l0 := hd 0 (by kernel_rfl)
              clear hf hx hd
              obtain ⟨B, hb, hBl, hbo⟩ := d0
              rw [hb] at e37
              rw [d1] at e38
              have hown := hbo.resolve_left (by rw [hL]; decide)
              refine of_wanted9 rfl (step_app_any rfl elem59 _ _ rfl (.slice (some ⟨B, 0, none⟩) 0 0) w2.heap.size 0 [] (ev9 e37) hown ⟨gb, 0, none⟩ 5 5 (dosFlat begD) (ev9 e38) (by rw [dosFlat_length]; rfl) (hbg w hI) (dos_one _) (by simp only [maxLen]; omega) (by omega) hI.size ?_)
              intro v' w' hown2 hgrow hnil hat
              rw [Nat.zero_add] at hown2
              have n33 : L 33 = true → False := fun h => by have := (f33 h).1; rw [hL] at this; exact absurd this (by decide)
              have hb2 : Below w2.heap.size w2 w' := hI.grown hgrow hI.size (fun k hk => own_ge hown k hk)
              refine hK _ _ ?_
              exact ⟨hb2, fun h => ⟨B, hb, Nat.lt_of_lt_of_le hBl hgrow.size, .inl rfl⟩, fun h => f1 h, fun _ => ⟨l0, _, rfl, .inr hown2⟩, fun h => f3 h, fun h => f4 h, fun h => f5 h, fun h => f6 h, fun h => f7 h, fun h => f8 h, fun h => f9 h, fun h => f10 h, fun h => f11 h, fun h => f12 h, fun h => f13 h, fun h => f14 h, fun h => f15 h, fun h => f16 h, fun h => f17 h, fun h => f18 h, fun h => f19 h, fun h => f20 h, fun h => f21 h, fun h => f22 h, fun h => f23 h, fun h => f24 h, fun h => f25 h, fun h => f26 h, fun h => f27 h, fun h => f28 h, fun h => f29 h, fun h => f30 h, fun h => f31 h, fun h => (f32 h).imp fun B9 h => h.imp fun ds h => ⟨h.1, h.2.1, h.2.2.1, h.2.2.2.1, h.2.2.2.2.imp id fun h2 => HK.blk_grown h2 hgrow (fun e => h.2.2.2.1 l0 B hb (Option.some.inj e).symm)⟩, fun h => (n33 h).elim, fun h => f34 h⟩
            · intro L x a w K hL hd hf hx hΦ hK
              obtain ⟨hI, f0, f1, f2, f3, f4, f5, f6, f7, f8, f9, f10, f11, f12, f13, f14, f15, f16, f17, f18, f19, f20, f21, f22, f23, f24, f25, f26, f27, f28, f29, f30, f31, f32, f33, f34⟩ := hΦ
              have e2 : a.tmps[2]? = some (.slice (some ⟨gs, 0, none⟩) 5 5) := hf 2 (of_decide_eq_true (by kernel_rfl))
              clear hf hx hd
              go_simp
              refine hK _ _ ?_
              exact ⟨hI, fun h => f0 h, fun h => f1 h, fun h => f2 h, fun _ => rfl, fun h => f4 h, fun h => f5 h, fun h => f6 h, fun h => f7 h, fun h => f8 h, fun h => f9 h, fun h => f10 h, fun h => f11 h, fun h => f12 h, fun h => f13 h, fun h => f14 h, fun h => f15 h, fun h => f16 h, fun h => f17 h, fun h => f18 h, fun h => f19 h, fun h => f20 h, fun h => f21 h, fun h => f22 h, fun h => f23 h, fun h => f24 h, fun h => f25 h, fun h => f26 h, fun h => f27 h, fun h => f28 h, fun h => f29 h, fun h => f30 h, fun h => f31 h, fun h => f32 h, fun h => f33 h, fun h => f34 h⟩
            · intro L x a w K hL hd hf hx hΦ hK
              obtain ⟨hI, f0, f1, f2, f3, f4, f5, f6, f7, f8, f9, f10, f11, f12, f13, f14, f15, f16, f17, f18, f19, f20, f21, f22, f23, f24, f25, f26, f27, f28, f29, f30, f31, f32, f33, f34⟩ := hΦ
              have e3 : a.tmps[3]? = some (.int .i64 (k : Int)) := hf 3 (of_decide_eq_true (by kernel_rfl))
              clear hf hx hd
              go_simp
              refine hK _ _ ?_
              exact ⟨hI, fun h => f0 h, fun h => f1 h, fun h => f2 h, fun h => f3 h, fun _ => rfl, fun h => f5 h, fun h => f6 h, fun h => f7 h, fun h => f8 h, fun h => f9 h, fun h => f10 h, fun h => f11 h, fun h => f12 h, fun h => f13 h, fun h => f14 h, fun h => f15 h, fun h => f16 h, fun h => f17 h, fun h => f18 h, fun h => f19 h, fun h => f20 h, fun h => f21 h, fun h => f22 h, fun h => f23 h, fun h => f24 h, fun h => f25 h, fun h => f26 h, fun h => f27 h, fun h => f28 h, fun h => f29 h, fun h => f30 h, fun h => f31 h, fun h => f32 h, fun h => f33 h, fun h => f34 h⟩
            · intro L x a w K hL hd hf hx hΦ hK
              obtain ⟨hI, f0, f1, f2, f3, f4, f5, f6, f7, f8, f9, f10, f11, f12, f13, f14, f15, f16, f17, f18, f19, f20, f21, f22, f23, f24, f25, f26, f27, f28, f29, f30, f31, f32, f33, f34⟩ := hΦ
              have d4 := f4 (hd 4 (by kernel_rfl))
              have e41 : a.tmps[41]? = some (x 41) := hx 4 _ 41 rfl rfl (hd 4 (by kernel_rfl))
              clear hf hx hd
              rw [d4] at e41
              go_simp
              rw [show (k : Int).tmod 5 = ((k % 5 : Nat) : Int) from by rw [Int.tmod_eq_emod_of_nonneg (by omega)]; omega]
              refine hK _ _ ?_
              exact ⟨hI, fun h => f0 h, fun h => f1 h, fun h => f2 h, fun h => f3 h, fun h => f4 h, fun _ => ⟨k % 5, by omega, rfl⟩, fun h => f6 h, fun h => f7 h, fun h => f8 h, fun h => f9 h, fun h => f10 h, fun h => f11 h, fun h => f12 h, fun h => f13 h, fun h => f14 h, fun h => f15 h, fun h => f16 h, fun h => f17 h, fun h => f18 h, fun h => f19 h, fun h => f20 h, fun h => f21 h, fun h => f22 h, fun h => f23 h, fun h => f24 h, fun h => f25 h, fun h => f26 h, fun h => f27 h, fun h => f28 h, fun h => f29 h, fun h => f30 h, fun h => f31 h, fun h => f32 h, fun h => f33 h, fun h => f34 h⟩
            · intro L x a w K hL hd hf hx hΦ hK
              obtain ⟨hI, f0, f1, f2, f3, f4, f5, f6, f7, f8, f9, f10, f11, f12, f13, f14, f15, f16, f17, f18, f19, f20, f21, f22, f23, f24, f25, f26, f27, f28, f29, f30, f31, f32, f33, f34⟩ := hΦ
              have d3 := f3 (hd 3 (by kernel_rfl))
              have e40 : a.tmps[40]? = some (x 40) := hx 3 _ 40 rfl rfl (hd 3 (by kernel_rfl))
              have d5 := f5 (hd 5 (by kernel_rfl))
              have e42 : a.tmps[42]? = some (x 42) := hx 5 _ 42 rfl rfl (hd 5 (by kernel_rfl))
              clear hf hx hd
              obtain ⟨z, hz, hx9⟩ := d5
              rw [d3] at e40
              rw [hx9] at e42
              have q0 : (0 : Int) ≤ (z : Int) := by omega
              have q1 : (z : Int) < 5 := by omega
              go_simp
              refine hK _ _ ?_
              exact ⟨hI, fun h => f0 h, fun h => f1 h, fun h => f2 h, fun h => f3 h, fun h => f4 h, fun h => f5 h, fun _ => ⟨z, hz, rfl⟩, fun h => f7 h, fun h => f8 h, fun h => f9 h, fun h => f10 h, fun h => f11 h, fun h => f12 h, fun h => f13 h, fun h => f14 h, fun h => f15 h, fun h => f16 h, fun h => f17 h, fun h => f18 h, fun h => f19 h, fun h => f20 h, fun h => f21 h, fun h => f22 h, fun h => f23 h, fun h => f24 h, fun h => f25 h, fun h => f26 h, fun h => f27 h, fun h => f28 h, fun h => f29 h, fun h => f30 h, fun h => f31 h, fun h => f32 h, fun h => f33 h, fun h => f34 h⟩
            · intro L x a w K hL hd hf hx hΦ hK
              obtain ⟨hI, f0, f1, f2, f3, f4, f5, f6, f7, f8, f9, f10, f11, f12, f13, f14, f15, f16, f17, f18, f19, f20, f21, f22, f23, f24, f25, f26, f27, f28, f29, f30, f31, f32, f33, f34⟩ := hΦ
              have d6 := f6 (hd 6 (by kernel_rfl))
              have e43 : a.tmps[43]? = some (x 43) := hx 6 _ 43 rfl rfl (hd 6 (by kernel_rfl))
              clear hf hx hd
              obtain ⟨z, hz, hx9⟩ := d6
              rw [hx9] at e43
              obtain ⟨d, hd9, c0, c1, c2, c3, c4⟩ := hst w hI z hz
              go_simp
              refine hK _ _ ?_
              exact ⟨hI, fun h => f0 h, fun h => f1 h, fun h => f2 h, fun h => f3 h, fun h => f4 h, fun h => f5 h, fun h => f6 h, fun _ => ⟨d, hd9, rfl⟩, fun h => f8 h, fun h => f9 h, fun h => f10 h, fun h => f11 h, fun h => f12 h, fun h => f13 h, fun h => f14 h, fun h => f15 h, fun h => f16 h, fun h => f17 h, fun h => f18 h, fun h => f19 h, fun h => f20 h, fun h => f21 h, fun h => f22 h, fun h => f23 h, fun h => f24 h, fun h => f25 h, fun h => f26 h, fun h => f27 h, fun h => f28 h, fun h => f29 h, fun h => f30 h, fun h => f31 h, fun h => f32 h, fun h => f33 h, fun h => f34 h⟩
            · intro L x a w K hL hd hf hx hΦ hK
              obtain ⟨hI, f0, f1, f2, f3, f4, f5, f6, f7, f8, f9, f10, f11, f12, f13, f14, f15, f16, f17, f18, f19, f20, f21, f22, f23, f24, f25, f26, f27, f28, f29, f30, f31, f32, f33, f34⟩ := hΦ
              have e2 : a.tmps[2]? = some (.slice (some ⟨gs, 0, none⟩) 5 5) := hf 2 (of_decide_eq_true (by kernel_rfl))
              clear hf hx hd
              go_simp
              refine hK _ _ ?_
              exact ⟨hI, fun h => f0 h, fun h => f1 h, fun h => f2 h, fun h => f3 h, fun h => f4 h, fun h => f5 h, fun h => f6 h, fun h => f7 h, fun _ => rfl, fun h => f9 h, fun h => f10 h, fun h => f11 h, fun h => f12 h, fun h => f13 h, fun h => f14 h, fun h => f15 h, fun h => f16 h, fun h => f17 h, fun h => f18 h, fun h => f19 h, fun h => f20 h, fun h => f21 h, fun h => f22 h, fun h => f23 h, fun h => f24 h, fun h => f25 h, fun h => f26 h, fun h => f27 h, fun h => f28 h, fun h => f29 h, fun h => f30 h, fun h => f31 h, fun h => f32 h, fun h => f33 h, fun h => f34 h⟩
            · intro L x a w K hL hd hf hx hΦ hK
              obtain ⟨hI, f0, f1, f2, f3, f4, f5, f6, f7, f8, f9, f10, f11, f12, f13, f14, f15, f16, f17, f18, f19, f20, f21, f22, f23, f24, f25, f26, f27, f28, f29, f30, f31, f32, f33, f34⟩ := hΦ
              have e3 : a.tmps[3]? = some (.int .i64 (k : Int)) := hf 3 (of_decide_eq_true (by kernel_rfl))
              clear hf hx hd
              go_simp
              refine hK _ _ ?_
              exact ⟨hI, fun h => f0 h, fun h => f1 h, fun h => f2 h, fun h => f3 h, fun h => f4 h, fun h => f5 h, fun h => f6 h, fun h => f7 h, fun h => f8 h, fun _ => rfl, fun h => f10 h, fun h => f11 h, fun h => f12 h, fun h => f13 h, fun h => f14 h, fun h => f15 h, fun h => f16 h, fun h => f17 h, fun h => f18 h, fun h => f19 h, fun h => f20 h, fun h => f21 h, fun h => f22 h, fun h => f23 h, fun h => f24 h, fun h => f25 h, fun h => f26 h, fun h => f27 h, fun h => f28 h, fun h => f29 h, fun h => f30 h, fun h => f31 h, fun h => f32 h, fun h => f33 h, fun h => f34 h⟩
            · intro L x a w K hL hd hf hx hΦ hK
              obtain ⟨hI, f0, f1, f2, f3, f4, f5, f6, f7, f8, f9, f10, f11, f12, f13, f14, f15, f16, f17, f18, f19, f20, f21, f22, f23, f24, f25, f26, f27, f28, f29, f30, f31, f32, f33, f34⟩ := hΦ
              have d9 := f9 (hd 9 (by kernel_rfl))
              have e46 : a.tmps[46]? = some (x 46) := hx 9 _ 46 rfl rfl (hd 9 (by kernel_rfl))
              clear hf hx hd
              rw [d9] at e46
              go_simp
              rw [show IntKind.i64.wrap ((k : Int) / 5) = ((k / 5 : Nat) : Int) from by rw [IntWalk.i64_in _ (by omega)]; omega]
              refine hK _ _ ?_
              exact ⟨hI, fun h => f0 h, fun h => f1 h, fun h => f2 h, fun h => f3 h, fun h => f4 h, fun h => f5 h, fun h => f6 h, fun h => f7 h, fun h => f8 h, fun h => f9 h, fun _ => ⟨k / 5, by omega, rfl⟩, fun h => f11 h, fun h => f12 h, fun h => f13 h, fun h => f14 h, fun h => f15 h, fun h => f16 h, fun h => f17 h, fun h => f18 h, fun h => f19 h, fun h => f20 h, fun h => f21 h, fun h => f22 h, fun h => f23 h, fun h => f24 h, fun h => f25 h, fun h => f26 h, fun h => f27 h, fun h => f28 h, fun h => f29 h, fun h => f30 h, fun h => f31 h, fun h => f32 h, fun h => f33 h, fun h => f34 h⟩
            · intro L x a w K hL hd hf hx hΦ hK
              obtain ⟨hI, f0, f1, f2, f3, f4, f5, f6, f7, f8, f9, f10, f11, f12, f13, f14, f15, f16, f17, f18, f19, f20, f21, f22, f23, f24, f25, f26, f27, f28, f29, f30, f31, f32, f33, f34⟩ := hΦ
              have d10 := f10 (hd 10 (by kernel_rfl))
              have e47 : a.tmps[47]? = some (x 47) := hx 10 _ 47 rfl rfl (hd 10 (by kernel_rfl))
              clear hf hx hd
              obtain ⟨z, hz, hx9⟩ := d10
              rw [hx9] at e47
              go_simp
              rw [show (z : Int).tmod 5 = ((z % 5 : Nat) : Int) from by rw [Int.tmod_eq_emod_of_nonneg (by omega)]; omega]
              refine hK _ _ ?_
              exact ⟨hI, fun h => f0 h, fun h => f1 h, fun h => f2 h, fun h => f3 h, fun h => f4 h, fun h => f5 h, fun h => f6 h, fun h => f7 h, fun h => f8 h, fun h => f9 h, fun h => f10 h, fun _ => ⟨z % 5, by omega, rfl⟩, fun h => f12 h, fun h => f13 h, fun h => f14 h, fun h => f15 h, fun h => f16 h, fun h => f17 h, fun h => f18 h, fun h => f19 h, fun h => f20 h, fun h => f21 h, fun h => f22 h, fun h => f23 h, fun h => f24 h, fun h => f25 h, fun h => f26 h, fun h => f27 h, fun h => f28 h, fun h => f29 h, fun h => f30 h, fun h => f31 h, fun h => f32 h, fun h => f33 h, fun h => f34 h⟩
            · intro L x a w K hL hd hf hx hΦ hK
              obtain ⟨hI, f0, f1, f2, f3, f4, f5, f6, f7, f8, f9, f10, f11, f12, f13, f14, f15, f16, f17, f18, f19, f20, f21, f22, f23, f24, f25, f26, f27, f28, f29, f30, f31, f32, f33, f34⟩ := hΦ
              have d8 := f8 (hd 8 (by kernel_rfl))
              have e45 : a.tmps[45]? = some (x 45) := hx 8 _ 45 rfl rfl (hd 8 (by kernel_rfl))
              have d11 := f11 (hd 11 (by kernel_rfl))
              have e48 : a.tmps[48]? = some (x 48) := hx 11 _ 48 rfl rfl (hd 11 (by kernel_rfl))
              clear hf hx hd
              obtain ⟨z, hz, hx9⟩ := d11
              rw [d8] at e45
              rw [hx9] at e48
              have q0 : (0 : Int) ≤ (z : Int) := by omega
              have q1 : (z : Int) < 5 := by omega
              go_simp
              refine hK _ _ ?_
              exact ⟨hI, fun h => f0 h, fun h => f1 h, fun h => f2 h, fun h => f3 h, fun h => f4 h, fun h => f5 h, fun h => f6 h, fun h => f7 h, fun h => f8 h, fun h => f9 h, fun h => f10 h, fun h => f11 h, fun _ => ⟨z, hz, rfl⟩, fun h => f13 h, fun h => f14 h, fun h => f15 h, fun h => f16 h, fun h => f17 h, fun h => f18 h, fun h => f19 h, fun h => f20 h, fun h => f21 h, fun h => f22 h, fun h => f23 h, fun h => f24 h, fun h => f25 h, fun h => f26 h, fun h => f27 h, fun h => f28 h, fun h => f29 h, fun h => f30 h, fun h => f31 h, fun h => f32 h, fun h => f33 h, fun h => f34 h⟩
            · intro L x a w K hL hd hf hx hΦ hK
              obtain ⟨hI, f0, f1, f2, f3, f4, f5, f6, f7, f8, f9, f10, f11, f12, f13, f14, f15, f16, f17, f18, f19, f20, f21, f22, f23, f24, f25, f26, f27, f28, f29, f30, f31, f32, f33, f34⟩ := hΦ
              have d12 := f12 (hd 12 (by kernel_rfl))
              have e49 : a.tmps[49]? = some (x 49) := hx 12 _ 49 rfl rfl (hd 12 (by kernel_rfl))
              clear hf hx hd
              obtain ⟨z, hz, hx9⟩ := d12
              rw [hx9] at e49
              obtain ⟨d, hd9, c0, c1, c2, c3, c4⟩ := hst w hI z hz
              go_simp
              refine hK _ _ ?_
              exact ⟨hI, fun h => f0 h, fun h => f1 h, fun h => f2 h, fun h => f3 h, fun h => f4 h, fun h => f5 h, fun h => f6 h, fun h => f7 h, fun h => f8 h, fun h => f9 h, fun h => f10 h, fun h => f11 h, fun h => f12 h, fun _ => ⟨d, hd9, rfl⟩, fun h => f14 h, fun h => f15 h, fun h => f16 h, fun h => f17 h, fun h => f18 h, fun h => f19 h, fun h => f20 h, fun h => f21 h, fun h => f22 h, fun h => f23 h, fun h => f24 h, fun h => f25 h, fun h => f26 h, fun h => f27 h, fun h => f28 h, fun h => f29 h, fun h => f30 h, fun h => f31 h, fun h => f32 h, fun h => f33 h, fun h => f34 h⟩
            · intro L x a w K hL hd hf hx hΦ hK
              obtain ⟨hI, f0, f1, f2, f3, f4, f5, f6, f7, f8, f9, f10, f11, f12, f13, f14, f15, f16, f17, f18, f19, f20, f21, f22, f23, f24, f25, f26, f27, f28, f29, f30, f31, f32, f33, f34⟩ := hΦ
              have e2 : a.tmps[2]? = some (.slice (some ⟨gs, 0, none⟩) 5 5) := hf 2 (of_decide_eq_true (by kernel_rfl))
              clear hf hx hd
              go_simp
              refine hK _ _ ?_
              exact ⟨hI, fun h => f0 h, fun h => f1 h, fun h => f2 h, fun h => f3 h, fun h => f4 h, fun h => f5 h, fun h => f6 h, fun h => f7 h, fun h => f8 h, fun h => f9 h, fun h => f10 h, fun h => f11 h, fun h => f12 h, fun h => f13 h, fun _ => rfl, fun h => f15 h, fun h => f16 h, fun h => f17 h, fun h => f18 h, fun h => f19 h, fun h => f20 h, fun h => f21 h, fun h => f22 h, fun h => f23 h, fun h => f24 h, fun h => f25 h, fun h => f26 h, fun h => f27 h, fun h => f28 h, fun h => f29 h, fun h => f30 h, fun h => f31 h, fun h => f32 h, fun h => f33 h, fun h => f34 h⟩
            · intro L x a w K hL hd hf hx hΦ hK
              obtain ⟨hI, f0, f1, f2, f3, f4, f5, f6, f7, f8, f9, f10, f11, f12, f13, f14, f15, f16, f17, f18, f19, f20, f21, f22, f23, f24, f25, f26, f27, f28, f29, f30, f31, f32, f33, f34⟩ := hΦ
              have e3 : a.tmps[3]? = some (.int .i64 (k : Int)) := hf 3 (of_decide_eq_true (by kernel_rfl))
              clear hf hx hd
              go_simp
              refine hK _ _ ?_
              exact ⟨hI, fun h => f0 h, fun h => f1 h, fun h => f2 h, fun h => f3 h, fun h => f4 h, fun h => f5 h, fun h => f6 h, fun h => f7 h, fun h => f8 h, fun h => f9 h, fun h => f10 h, fun h => f11 h, fun h => f12 h, fun h => f13 h, fun h => f14 h, fun _ => rfl, fun h => f16 h, fun h => f17 h, fun h => f18 h, fun h => f19 h, fun h => f20 h, fun h => f21 h, fun h => f22 h, fun h => f23 h, fun h => f24 h, fun h => f25 h, fun h => f26 h, fun h => f27 h, fun h => f28 h, fun h => f29 h, fun h => f30 h, fun h => f31 h, fun h => f32 h, fun h => f33 h, fun h => f34 h⟩
            · intro L x a w K hL hd hf hx hΦ hK
              obtain ⟨hI, f0, f1, f2, f3, f4, f5, f6, f7, f8, f9, f10, f11, f12, f13, f14, f15, f16, f17, f18, f19, f20, f21, f22, f23, f24, f25, f26, f27, f28, f29, f30, f31, f32, f33, f34⟩ := hΦ
              have d15 := f15 (hd 15 (by kernel_rfl))
              have e52 : a.tmps[52]? = some (x 52) := hx 15 _ 52 rfl rfl (hd 15 (by kernel_rfl))
              clear hf hx hd
              rw [d15] at e52
              go_simp
              rw [show IntKind.i64.wrap ((k : Int) / 25) = ((k / 25 : Nat) : Int) from by rw [IntWalk.i64_in _ (by omega)]; omega]
              refine hK _ _ ?_
              exact ⟨hI, fun h => f0 h, fun h => f1 h, fun h => f2 h, fun h => f3 h, fun h => f4 h, fun h => f5 h, fun h => f6 h, fun h => f7 h, fun h => f8 h, fun h => f9 h, fun h => f10 h, fun h => f11 h, fun h => f12 h, fun h => f13 h, fun h => f14 h, fun h => f15 h, fun _ => ⟨k / 25, by omega, rfl⟩, fun h => f17 h, fun h => f18 h, fun h => f19 h, fun h => f20 h, fun h => f21 h, fun h => f22 h, fun h => f23 h, fun h => f24 h, fun h => f25 h, fun h => f26 h, fun h => f27 h, fun h => f28 h, fun h => f29 h, fun h => f30 h, fun h => f31 h, fun h => f32 h, fun h => f33 h, fun h => f34 h⟩
            · intro L x a w K hL hd hf hx hΦ hK
              obtain ⟨hI, f0, f1, f2, f3, f4, f5, f6, f7, f8, f9, f10, f11, f12, f13, f14, f15, f16, f17, f18, f19, f20, f21, f22, f23, f24, f25, f26, f27, f28, f29, f30, f31, f32, f33, f34⟩ := hΦ
              have d16 := f16 (hd 16 (by kernel_rfl))
              have e53 : a.tmps[53]? = some (x 53) := hx 16 _ 53 rfl rfl (hd 16 (by kernel_rfl))
              clear hf hx hd
              obtain ⟨z, hz, hx9⟩ := d16
              rw [hx9] at e53
              go_simp
              rw [show (z : Int).tmod 5 = ((z % 5 : Nat) : Int) from by rw [Int.tmod_eq_emod_of_nonneg (by omega)]; omega]
              refine hK _ _ ?_
              exact ⟨hI, fun h => f0 h, fun h => f1 h, fun h => f2 h, fun h => f3 h, fun h => f4 h, fun h => f5 h, fun h => f6 h, fun h => f7 h, fun h => f8 h, fun h => f9 h, fun h => f10 h, fun h => f11 h, fun h => f12 h, fun h => f13 h, fun h => f14 h, fun h => f15 h, fun h => f16 h, fun _ => ⟨z % 5, by omega, rfl⟩, fun h => f18 h, fun h => f19 h, fun h => f20 h, fun h => f21 h, fun h => f22 h, fun h => f23 h, fun h => f24 h, fun h => f25 h, fun h => f26 h, fun h => f27 h, fun h => f28 h, fun h => f29 h, fun h => f30 h, fun h => f31 h, fun h => f32 h, fun h => f33 h, fun h => f34 h⟩
            · intro L x a w K hL hd hf hx hΦ hK
              obtain ⟨hI, f0, f1, f2, f3, f4, f5, f6, f7, f8, f9, f10, f11, f12, f13, f14, f15, f16, f17, f18, f19, f20, f21, f22, f23, f24, f25, f26, f27, f28, f29, f30, f31, f32, f33, f34⟩ := hΦ
              have d14 := f14 (hd 14 (by kernel_rfl))
              have e51 : a.tmps[51]? = some (x 51) := hx 14 _ 51 rfl rfl (hd 14 (by kernel_rfl))
              have d17 := f17 (hd 17 (by kernel_rfl))
              have e54 : a.tmps[54]? = some (x 54) := hx 17 _ 54 rfl rfl (hd 17 (by kernel_rfl))
              clear hf hx hd
              obtain ⟨z, hz, hx9⟩ := d17
              rw [d14] at e51
              rw [hx9] at e54
              have q0 : (0 : Int) ≤ (z : Int) := by omega
              have q1 : (z : Int) < 5 := by omega
              go_simp
              refine hK _ _ ?_
              exact ⟨hI, fun h => f0 h, fun h => f1 h, fun h => f2 h, fun h => f3 h, fun h => f4 h, fun h => f5 h, fun h => f6 h, fun h => f7 h, fun h => f8 h, fun h => f9 h, fun h => f10 h, fun h => f11 h, fun h => f12 h, fun h => f13 h, fun h => f14 h, fun h => f15 h, fun h => f16 h, fun h => f17 h, fun _ => ⟨z, hz, rfl⟩, fun h => f19 h, fun h => f20 h, fun h => f21 h, fun h => f22 h, fun h => f23 h, fun h => f24 h, fun h => f25 h, fun h => f26 h, fun h => f27 h, fun h => f28 h, fun h => f29 h, fun h => f30 h, fun h => f31 h, fun h => f32 h, fun h => f33 h, fun h => f34 h⟩
            · intro L x a w K hL hd hf hx hΦ hK
              obtain ⟨hI, f0, f1, f2, f3, f4, f5, f6, f7, f8, f9, f10, f11, f12, f13, f14, f15, f16, f17, f18, f19, f20, f21, f22, f23, f24, f25, f26, f27, f28, f29, f30, f31, f32, f33, f34⟩ := hΦ
              have d18 := f18 (hd 18 (by kernel_rfl))
              have e55 : a.tmps[55]? = some (x 55) := hx 18 _ 55 rfl rfl (hd 18 (by kernel_rfl))
              clear hf hx hd
              obtain ⟨z, hz, hx9⟩ := d18
              rw [hx9] at e55
              obtain ⟨d, hd9, c0, c1, c2, c3, c4⟩ := hst w hI z hz
              go_simp
              refine hK _ _ ?_
              exact ⟨hI, fun h => f0 h, fun h => f1 h, fun h => f2 h, fun h => f3 h, fun h => f4 h, fun h => f5 h, fun h => f6 h, fun h => f7 h, fun h => f8 h, fun h => f9 h, fun h => f10 h, fun h => f11 h, fun h => f12 h, fun h => f13 h, fun h => f14 h, fun h => f15 h, fun h => f16 h, fun h => f17 h, fun h => f18 h, fun _ => ⟨d, hd9, rfl⟩, fun h => f20 h, fun h => f21 h, fun h => f22 h, fun h => f23 h, fun h => f24 h, fun h => f25 h, fun h => f26 h, fun h => f27 h, fun h => f28 h, fun h => f29 h, fun h => f30 h, fun h => f31 h, fun h => f32 h, fun h => f33 h, fun h => f34 h⟩
            · intro L x a w K hL hd hf hx hΦ hK
              obtain ⟨hI, f0, f1, f2, f3, f4, f5, f6, f7, f8, f9, f10, f11, f12, f13, f14, f15, f16, f17, f18, f19, f20, f21, f22, f23, f24, f25, f26, f27, f28, f29, f30, f31, f32, f33, f34⟩ := hΦ
              have e2 : a.tmps[2]? = some (.slice (some ⟨gs, 0, none⟩) 5 5) := hf 2 (of_decide_eq_true (by kernel_rfl))
              clear hf hx hd
              go_simp
              refine hK _ _ ?_
              exact ⟨hI, fun h => f0 h, fun h => f1 h, fun h => f2 h, fun h => f3 h, fun h => f4 h, fun h => f5 h, fun h => f6 h, fun h => f7 h, fun h => f8 h, fun h => f9 h, fun h => f10 h, fun h => f11 h, fun h => f12 h, fun h => f13 h, fun h => f14 h, fun h => f15 h, fun h => f16 h, fun h => f17 h, fun h => f18 h, fun h => f19 h, fun _ => rfl, fun h => f21 h, fun h => f22 h, fun h => f23 h, fun h => f24 h, fun h => f25 h, fun h => f26 h, fun h => f27 h, fun h => f28 h, fun h => f29 h, fun h => f30 h, fun h => f31 h, fun h => f32 h, fun h => f33 h, fun h => f34 h⟩
            · intro L x a w K hL hd hf hx hΦ hK
              obtain ⟨hI, f0, f1, f2, f3, f4, f5, f6, f7, f8, f9, f10, f11, f12, f13, f14, f15, f16, f17, f18, f19, f20, f21, f22, f23, f24, f25, f26, f27, f28, f29, f30, f31, f32, f33, f34⟩ := hΦ
              have e3 : a.tmps[3]? = some (.int .i64 (k : Int)) := hf 3 (of_decide_eq_true (by kernel_rfl))
              clear hf hx hd
              go_simp
              refine hK _ _ ?_
              exact ⟨hI, fun h => f0 h, fun h => f1 h, fun h => f2 h, fun h => f3 h, fun h => f4 h, fun h => f5 h, fun h => f6 h, fun h => f7 h, fun h => f8 h, fun h => f9 h, fun h => f10 h, fun h => f11 h, fun h => f12 h, fun h => f13 h, fun h => f14 h, fun h => f15 h, fun h => f16 h, fun h => f17 h, fun h => f18 h, fun h => f19 h, fun h => f20 h, fun _ => rfl, fun h => f22 h, fun h => f23 h, fun h => f24 h, fun h => f25 h, fun h => f26 h, fun h => f27 h, fun h => f28 h, fun h => f29 h, fun h => f30 h, fun h => f31 h, fun h => f32 h, fun h => f33 h, fun h => f34 h⟩
            · intro L x a w K hL hd hf hx hΦ hK
              obtain ⟨hI, f0, f1, f2, f3, f4, f5, f6, f7, f8, f9, f10, f11, f12, f13, f14, f15, f16, f17, f18, f19, f20, f21, f22, f23, f24, f25, f26, f27, f28, f29, f30, f31, f32, f33, f34⟩ := hΦ
              have d21 := f21 (hd 21 (by kernel_rfl))
              have e58 : a.tmps[58]? = some (x 58) := hx 21 _ 58 rfl rfl (hd 21 (by kernel_rfl))
              clear hf hx hd
              rw [d21] at e58
              go_simp
              rw [show IntKind.i64.wrap ((k : Int) / 125) = ((k / 125 : Nat) : Int) from by rw [IntWalk.i64_in _ (by omega)]; omega]
              refine hK _ _ ?_
              exact ⟨hI, fun h => f0 h, fun h => f1 h, fun h => f2 h, fun h => f3 h, fun h => f4 h, fun h => f5 h, fun h => f6 h, fun h => f7 h, fun h => f8 h, fun h => f9 h, fun h => f10 h, fun h => f11 h, fun h => f12 h, fun h => f13 h, fun h => f14 h, fun h => f15 h, fun h => f16 h, fun h => f17 h, fun h => f18 h, fun h => f19 h, fun h => f20 h, fun h => f21 h, fun _ => ⟨k / 125, by omega, rfl⟩, fun h => f23 h, fun h => f24 h, fun h => f25 h, fun h => f26 h, fun h => f27 h, fun h => f28 h, fun h => f29 h, fun h => f30 h, fun h => f31 h, fun h => f32 h, fun h => f33 h, fun h => f34 h⟩
            · intro L x a w K hL hd hf hx hΦ hK
              obtain ⟨hI, f0, f1, f2, f3, f4, f5, f6, f7, f8, f9, f10, f11, f12, f13, f14, f15, f16, f17, f18, f19, f20, f21, f22, f23, f24, f25, f26, f27, f28, f29, f30, f31, f32, f33, f34⟩ := hΦ
              have d20 := f20 (hd 20 (by kernel_rfl))
              have e57 : a.tmps[57]? = some (x 57) := hx 20 _ 57 rfl rfl (hd 20 (by kernel_rfl))
              have d22 := f22 (hd 22 (by kernel_rfl))
              have e59 : a.tmps[59]? = some (x 59) := hx 22 _ 59 rfl rfl (hd 22 (by kernel_rfl))
              clear hf hx hd
              obtain ⟨z, hz, hx9⟩ := d22
              rw [d20] at e57
              rw [hx9] at e59
              have q0 : (0 : Int) ≤ (z : Int) := by omega
              have q1 : (z : Int) < 5 := by omega
              go_simp
              refine hK _ _ ?_
              exact ⟨hI, fun h => f0 h, fun h => f1 h, fun h => f2 h, fun h => f3 h, fun h => f4 h, fun h => f5 h, fun h => f6 h, fun h => f7 h, fun h => f8 h, fun h => f9 h, fun h => f10 h, fun h => f11 h, fun h => f12 h, fun h => f13 h, fun h => f14 h, fun h => f15 h, fun h => f16 h, fun h => f17 h, fun h => f18 h, fun h => f19 h, fun h => f20 h, fun h => f21 h, fun h => f22 h, fun _ => ⟨z, hz, rfl⟩, fun h => f24 h, fun h => f25 h, fun h => f26 h, fun h => f27 h, fun h => f28 h, fun h => f29 h, fun h => f30 h, fun h => f31 h, fun h => f32 h, fun h => f33 h, fun h => f34 h⟩
            · intro L x a w K hL hd hf hx hΦ hK
              obtain ⟨hI, f0, f1, f2, f3, f4, f5, f6, f7, f8, f9, f10, f11, f12, f13, f14, f15, f16, f17, f18, f19, f20, f21, f22, f23, f24, f25, f26, f27, f28, f29, f30, f31, f32, f33, f34⟩ := hΦ
              have d23 := f23 (hd 23 (by kernel_rfl))
              have e60 : a.tmps[60]? = some (x 60) := hx 23 _ 60 rfl rfl (hd 23 (by kernel_rfl))
              clear hf hx hd
              obtain ⟨z, hz, hx9⟩ := d23
              rw [hx9] at e60
              obtain ⟨d, hd9, c0, c1, c2, c3, c4⟩ := hst w hI z hz
              go_simp
              refine hK _ _ ?_
              exact ⟨hI, fun h => f0 h, fun h => f1 h, fun h => f2 h, fun h => f3 h, fun h => f4 h, fun h => f5 h, fun h => f6 h, fun h => f7 h, fun h => f8 h, fun h => f9 h, fun h => f10 h, fun h => f11 h, fun h => f12 h, fun h => f13 h, fun h => f14 h, fun h => f15 h, fun h => f16 h, fun h => f17 h, fun h => f18 h, fun h => f19 h, fun h => f20 h, fun h => f21 h, fun h => f22 h, fun h => f23 h, fun _ => ⟨d, hd9, rfl⟩, fun h => f25 h, fun h => f26 h, fun h => f27 h, fun h => f28 h, fun h => f29 h, fun h => f30 h, fun h => f31 h, fun h => f32 h, fun h => f33 h, fun h => f34 h⟩
            · intro L x a w K hL hd hf hx hΦ hK
              obtain ⟨hI, f0, f1, f2, f3, f4, f5, f6, f7, f8, f9, f10, f11, f12, f13, f14, f15, f16, f17, f18, f19, f20, f21, f22, f23, f24, f25, f26, f27, f28, f29, f30, f31, f32, f33, f34⟩ := hΦ
              have e3 : a.tmps[3]? = some (.int .i64 (k : Int)) := hf 3 (of_decide_eq_true (by kernel_rfl))
              clear hf hx hd
              go_simp
              refine hK _ _ ?_
              exact ⟨hI, fun h => f0 h, fun h => f1 h, fun h => f2 h, fun h => f3 h, fun h => f4 h, fun h => f5 h, fun h => f6 h, fun h => f7 h, fun h => f8 h, fun h => f9 h, fun h => f10 h, fun h => f11 h, fun h => f12 h, fun h => f13 h, fun h => f14 h, fun h => f15 h, fun h => f16 h, fun h => f17 h, fun h => f18 h, fun h => f19 h, fun h => f20 h, fun h => f21 h, fun h => f22 h, fun h => f23 h, fun h => f24 h, fun _ => rfl, fun h => f26 h, fun h => f27 h, fun h => f28 h, fun h => f29 h, fun h => f30 h, fun h => f31 h, fun h => f32 h, fun h => f33 h, fun h => f34 h⟩
            · intro L x a w K hL hd hf hx hΦ hK
              obtain ⟨hI, f0, f1, f2, f3, f4, f5, f6, f7, f8, f9, f10, f11, f12, f13, f14, f15, f16, f17, f18, f19, f20, f21, f22, f23, f24, f25, f26, f27, f28, f29, f30, f31, f32, f33, f34⟩ := hΦ
              have d25 := f25 (hd 25 (by kernel_rfl))
              have e62 : a.tmps[62]? = some (x 62) := hx 25 _ 62 rfl rfl (hd 25 (by kernel_rfl))
              clear hf hx hd
              rw [d25] at e62
              go_simp
              rw [show (k : Int).tmod 7 = ((k % 7 : Nat) : Int) from by rw [Int.tmod_eq_emod_of_nonneg (by omega)]; omega]
              refine hK _ _ ?_
              exact ⟨hI, fun h => f0 h, fun h => f1 h, fun h => f2 h, fun h => f3 h, fun h => f4 h, fun h => f5 h, fun h => f6 h, fun h => f7 h, fun h => f8 h, fun h => f9 h, fun h => f10 h, fun h => f11 h, fun h => f12 h, fun h => f13 h, fun h => f14 h, fun h => f15 h, fun h => f16 h, fun h => f17 h, fun h => f18 h, fun h => f19 h, fun h => f20 h, fun h => f21 h, fun h => f22 h, fun h => f23 h, fun h => f24 h, fun h => f25 h, fun _ => ⟨k % 7, by omega, rfl⟩, fun h => f27 h, fun h => f28 h, fun h => f29 h, fun h => f30 h, fun h => f31 h, fun h => f32 h, fun h => f33 h, fun h => f34 h⟩
            · intro L x a w K hL hd hf hx hΦ hK
              obtain ⟨hI, f0, f1, f2, f3, f4, f5, f6, f7, f8, f9, f10, f11, f12, f13, f14, f15, f16, f17, f18, f19, f20, f21, f22, f23, f24, f25, f26, f27, f28, f29, f30, f31, f32, f33, f34⟩ := hΦ
              have e3 : a.tmps[3]? = some (.int .i64 (k : Int)) := hf 3 (of_decide_eq_true (by kernel_rfl))
              clear hf hx hd
              go_simp
              refine hK _ _ ?_
              exact ⟨hI, fun h => f0 h, fun h => f1 h, fun h => f2 h, fun h => f3 h, fun h => f4 h, fun h => f5 h, fun h => f6 h, fun h => f7 h, fun h => f8 h, fun h => f9 h, fun h => f10 h, fun h => f11 h, fun h => f12 h, fun h => f13 h, fun h => f14 h, fun h => f15 h, fun h => f16 h, fun h => f17 h, fun h => f18 h, fun h => f19 h, fun h => f20 h, fun h => f21 h, fun h => f22 h, fun h => f23 h, fun h => f24 h, fun h => f25 h, fun h => f26 h, fun _ => rfl, fun h => f28 h, fun h => f29 h, fun h => f30 h, fun h => f31 h, fun h => f32 h, fun h => f33 h, fun h => f34 h⟩
            · intro L x a w K hL hd hf hx hΦ hK
              obtain ⟨hI, f0, f1, f2, f3, f4, f5, f6, f7, f8, f9, f10, f11, f12, f13, f14, f15, f16, f17, f18, f19, f20, f21, f22, f23, f24, f25, f26, f27, f28, f29, f30, f31, f32, f33, f34⟩ := hΦ
              have d27 := f27 (hd 27 (by kernel_rfl))
              have e64 : a.tmps[64]? = some (x 64) := hx 27 _ 64 rfl rfl (hd 27 (by kernel_rfl))
              clear hf hx hd
              rw [d27] at e64
              go_simp
              rw [show IntKind.i64.wrap ((k : Int) / 7) = ((k / 7 : Nat) : Int) from by rw [IntWalk.i64_in _ (by omega)]; omega]
              refine hK _ _ ?_
              exact ⟨hI, fun h => f0 h, fun h => f1 h, fun h => f2 h, fun h => f3 h, fun h => f4 h, fun h => f5 h, fun h => f6 h, fun h => f7 h, fun h => f8 h, fun h => f9 h, fun h => f10 h, fun h => f11 h, fun h => f12 h, fun h => f13 h, fun h => f14 h, fun h => f15 h, fun h => f16 h, fun h => f17 h, fun h => f18 h, fun h => f19 h, fun h => f20 h, fun h => f21 h, fun h => f22 h, fun h => f23 h, fun h => f24 h, fun h => f25 h, fun h => f26 h, fun h => f27 h, fun _ => ⟨k / 7, by omega, rfl⟩, fun h => f29 h, fun h => f30 h, fun h => f31 h, fun h => f32 h, fun h => f33 h, fun h => f34 h⟩
            · intro L x a w K hL hd hf hx hΦ hK
              obtain ⟨hI, f0, f1, f2, f3, f4, f5, f6, f7, f8, f9, f10, f11, f12, f13, f14, f15, f16, f17, f18, f19, f20, f21, f22, f23, f24, f25, f26, f27, f28, f29, f30, f31, f32, f33, f34⟩ := hΦ
              have d28 := f28 (hd 28 (by kernel_rfl))
              have e65 : a.tmps[65]? = some (x 65) := hx 28 _ 65 rfl rfl (hd 28 (by kernel_rfl))
              clear hf hx hd
              obtain ⟨z, hz, hx9⟩ := d28
              rw [hx9] at e65
              go_simp
              rw [show (z : Int).tmod 6 = ((z % 6 : Nat) : Int) from by rw [Int.tmod_eq_emod_of_nonneg (by omega)]; omega]
              refine hK _ _ ?_
              exact ⟨hI, fun h => f0 h, fun h => f1 h, fun h => f2 h, fun h => f3 h, fun h => f4 h, fun h => f5 h, fun h => f6 h, fun h => f7 h, fun h => f8 h, fun h => f9 h, fun h => f10 h, fun h => f11 h, fun h => f12 h, fun h => f13 h, fun h => f14 h, fun h => f15 h, fun h => f16 h, fun h => f17 h, fun h => f18 h, fun h => f19 h, fun h => f20 h, fun h => f21 h, fun h => f22 h, fun h => f23 h, fun h => f24 h, fun h => f25 h, fun h => f26 h, fun h => f27 h, fun h => f28 h, fun _ => ⟨z % 6, by omega, rfl⟩, fun h => f30 h, fun h => f31 h, fun h => f32 h, fun h => f33 h, fun h => f34 h⟩
            · intro L x a w K hL hd hf hx hΦ hK
              obtain ⟨hI, f0, f1, f2, f3, f4, f5, f6, f7, f8, f9, f10, f11, f12, f13, f14, f15, f16, f17, f18, f19, f20, f21, f22, f23, f24, f25, f26, f27, f28, f29, f30, f31, f32, f33, f34⟩ := hΦ
              have d26 := f26 (hd 26 (by kernel_rfl))
              have e63 : a.tmps[63]? = some (x 63) := hx 26 _ 63 rfl rfl (hd 26 (by kernel_rfl))
              have d29 := f29 (hd 29 (by kernel_rfl))
              have e66 : a.tmps[66]? = some (x 66) := hx 29 _ 66 rfl rfl (hd 29 (by kernel_rfl))
              clear hf hx hd
              obtain ⟨z1, hz1, hx1⟩ := d26
              obtain ⟨z2, hz2, hx2⟩ := d29
              rw [hx1] at e63
              rw [hx2] at e66
              go_simp
              refine hK _ _ ?_
              exact ⟨hI, fun h => f0 h, fun h => f1 h, fun h => f2 h, fun h => f3 h, fun h => f4 h, fun h => f5 h, fun h => f6 h, fun h => f7 h, fun h => f8 h, fun h => f9 h, fun h => f10 h, fun h => f11 h, fun h => f12 h, fun h => f13 h, fun h => f14 h, fun h => f15 h, fun h => f16 h, fun h => f17 h, fun h => f18 h, fun h => f19 h, fun h => f20 h, fun h => f21 h, fun h => f22 h, fun h => f23 h, fun h => f24 h, fun h => f25 h, fun h => f26 h, fun h => f27 h, fun h => f28 h, fun h => f29 h, fun _ => ⟨⟨5, z1, z2, ⟨#[120]⟩, ⟨#[]⟩⟩, ⟨(show (5 : Nat) ≤ 255 by decide), (show (⟨#[120]⟩ : ByteArray).size ≤ maxLen by decide), (show (⟨#[]⟩ : ByteArray).size ≤ maxLen by decide)⟩, rfl⟩, fun h => f31 h, fun h => f32 h, fun h => f33 h, fun h => f34 h⟩
            · intro L x a w K hL hd hf hx hΦ hK
              obtain ⟨hI, f0, f1, f2, f3, f4, f5, f6, f7, f8, f9, f10, f11, f12, f13, f14, f15, f16, f17, f18, f19, f20, f21, f22, f23, f24, f25, f26, f27, f28, f29, f30, f31, f32, f33, f34⟩ := hΦ
              clear hf hx hd
              go_simp
              refine hK _ _ ?_
              exact ⟨hI, fun h => f0 h, fun h => f1 h, fun h => f2 h, fun h => f3 h, fun h => f4 h, fun h => f5 h, fun h => f6 h, fun h => f7 h, fun h => f8 h, fun h => f9 h, fun h => f10 h, fun h => f11 h, fun h => f12 h, fun h => f13 h, fun h => f14 h, fun h => f15 h, fun h => f16 h, fun h => f17 h, fun h => f18 h, fun h => f19 h, fun h => f20 h, fun h => f21 h, fun h => f22 h, fun h => f23 h, fun h => f24 h, fun h => f25 h, fun h => f26 h, fun h => f27 h, fun h => f28 h, fun h => f29 h, fun h => f30 h, fun _ => ⟨⟨3, 0, 0, ⟨#[]⟩, ⟨#[]⟩⟩, ⟨by decide, by decide, by decide⟩, rfl⟩, fun h => f32 h, fun h => f33 h, fun h => f34 h⟩
            · intro L x a w K hL hd hf hx hΦ hK
              obtain ⟨hI, f0, f1, f2, f3, f4, f5, f6, f7, f8, f9, f10, f11, f12, f13, f14, f15, f16, f17, f18, f19, f20, f21, f22, f23, f24, f25, f26, f27, f28, f29, f30, f31, f32, f33, f34⟩ := hΦ
              have d7 := f7 (hd 7 (by kernel_rfl))
              have e44 : a.tmps[44]? = some (x 44) := hx 7 _ 44 rfl rfl (hd 7 (by kernel_rfl))
              have d13 := f13 (hd 13 (by kernel_rfl))
              have e50 : a.tmps[50]? = some (x 50) := hx 13 _ 50 rfl rfl (hd 13 (by kernel_rfl))
              have d19 := f19 (hd 19 (by kernel_rfl))
              have e56 : a.tmps[56]? = some (x 56) := hx 19 _ 56 rfl rfl (hd 19 (by kernel_rfl))
              have d24 := f24 (hd 24 (by kernel_rfl))
              have e61 : a.tmps[61]? = some (x 61) := hx 24 _ 61 rfl rfl (hd 24 (by kernel_rfl))
              have d30 := f30 (hd 30 (by kernel_rfl))
              have e67 : a.tmps[67]? = some (x 67) := hx 30 _ 67 rfl rfl (hd 30 (by kernel_rfl))
              have d31 := f31 (hd 31 (by kernel_rfl))
              have e68 : a.tmps[68]? = some (x 68) := hx 31 _ 68 rfl rfl (hd 31 (by kernel_rfl))
              clear hf hx hd
              obtain ⟨y0, o0, h0⟩ := d7
              rw [h0] at e44
              obtain ⟨y1, o1, h1⟩ := d13
              rw [h1] at e50
              obtain ⟨y2, o2, h2⟩ := d19
              rw [h2] at e56
              obtain ⟨y3, o3, h3⟩ := d24
              rw [h3] at e61
              obtain ⟨y4, o4, h4⟩ := d30
              rw [h4] at e67
              obtain ⟨y5, o5, h5⟩ := d31
              rw [h5] at e68
              refine wp_six 44 50 56 61 67 68 y0 y1 y2 y3 y4 y5 rfl (ev9 e44) (ev9 e50) (ev9 e56) (ev9 e61) (ev9 e67) (ev9 e68) ?_
              refine hK _ _ ?_
              exact ⟨hI.alloc hI.size _, fun h => (f0 h).imp fun B h => ⟨h.1, Nat.lt_of_lt_of_le h.2.1 ((Below.refl _ w).alloc (Nat.le_refl _) _).size, h.2.2.imp id fun h2 => own_below9 h2 ((Below.refl _ w).alloc (Nat.le_refl _) _)⟩, fun h => f1 h, fun h => ⟨(f2 h).1, (f2 h).2.imp fun v h => ⟨h.1, h.2.imp id fun h2 => own_below9 h2 ((Below.refl _ w).alloc (Nat.le_refl _) _)⟩⟩, fun h => f3 h, fun h => f4 h, fun h => f5 h, fun h => f6 h, fun h => f7 h, fun h => f8 h, fun h => f9 h, fun h => f10 h, fun h => f11 h, fun h => f12 h, fun h => f13 h, fun h => f14 h, fun h => f15 h, fun h => f16 h, fun h => f17 h, fun h => f18 h, fun h => f19 h, fun h => f20 h, fun h => f21 h, fun h => f22 h, fun h => f23 h, fun h => f24 h, fun h => f25 h, fun h => f26 h, fun h => f27 h, fun h => f28 h, fun h => f29 h, fun h => f30 h, fun h => f31 h, fun _ => ⟨_, [y0, y1, y2, y3, y4, y5], rfl, rfl, fun d hd => by simp only [List.mem_cons, List.not_mem_nil, or_false] at hd; rcases hd with rfl | rfl | rfl | rfl | rfl | rfl <;> assumption, fun h B' e => by obtain ⟨B9, h1, h2, _⟩ := f0 h; cases h1.symm.trans e; omega, .inr (HK.blk_new _ _)⟩, fun h => absurd (f33 h).2.1 (by rw [hL]; decide), fun h => f34 h⟩
            · intro L x a w K hL hd hf hx hΦ hK
              obtain ⟨hI, f0, f1, f2, f3, f4, f5, f6, f7, f8, f9, f10, f11, f12, f13, f14, f15, f16, f17, f18, f19, f20, f21, f22, f23, f24, f25, f26, f27, f28, f29, f30, f31, f32, f33, f34⟩ := hΦ
              have d2 := f2 (hd 2 (by kernel_rfl))
              have e39 : a.tmps[39]? = some (x 39) := hx 2 _ 39 rfl rfl (hd 2 (by kernel_rfl))
              have d32 := f32 (hd 32 (by kernel_rfl))
              have e69 : a.tmps[69]? = some (x 69) := hx 32 _ 69 rfl rfl (hd 32 (by kernel_rfl))
              have l2 := hd 2 (by kernel_rfl)
              have l32 := hd 32 (by kernel_rfl)
              clear hf hx hd
              obtain ⟨l0, v, hv, hvo⟩ := d2
              obtain ⟨B, ds, hb, hdl, hdo, hdj, hbc⟩ := d32
              rw [hv] at e39
              rw [hb] at e69
              have hown := hvo.resolve_left (by rw [hL]; decide)
              have hbc := hbc.resolve_left (by rw [hL]; decide)
              refine of_wanted9 rfl (step_app_any rfl elem59 _ _ rfl v w2.heap.size 5 (dosFlat begD) (ev9 e39) hown ⟨B, 0, none⟩ 6 6 (dosFlat ds) (ev9 e69) (by rw [dosFlat_length, hdl]) (fun j u hj => by rw [addr_add0, HK.blk_cell hbc, List.getElem?_toArray]; exact hj) (dos_one _) (by simp only [maxLen]; omega) (by omega) hI.size ?_)
              intro v' w' hown2 hgrow hnil hat
              have hb2 : Below w2.heap.size w2 w' := hI.grown hgrow hI.size (fun k hk => own_ge hown k hk)
              refine hK _ _ ?_
              exact ⟨hb2, fun h => (f0 h).imp fun B h => ⟨h.1, Nat.lt_of_lt_of_le h.2.1 hgrow.size, .inl l2⟩, fun h => f1 h, fun h => ⟨l0, v, hv, .inl rfl⟩, fun h => f3 h, fun h => f4 h, fun h => f5 h, fun h => f6 h, fun h => f7 h, fun h => f8 h, fun h => f9 h, fun h => f10 h, fun h => f11 h, fun h => f12 h, fun h => f13 h, fun h => f14 h, fun h => f15 h, fun h => f16 h, fun h => f17 h, fun h => f18 h, fun h => f19 h, fun h => f20 h, fun h => f21 h, fun h => f22 h, fun h => f23 h, fun h => f24 h, fun h => f25 h, fun h => f26 h, fun h => f27 h, fun h => f28 h, fun h => f29 h, fun h => f30 h, fun h => f31 h, fun h => ⟨B, ds, hb, hdl, hdo, hdj, .inl rfl⟩, fun _ => ⟨l2, l32, begD ++ ds, by rw [List.length_append, hdl]; rfl, fun d hd => (List.mem_append.1 hd).elim (beg_ok d) (hdo d), by rw [dosFlat_append]; exact hown2⟩, fun h => absurd (f34 h).1 (by rw [hL]; decide)⟩
            · intro L x a w K hL hd hf hx hΦ hK
              obtain ⟨hI, f0, f1, f2, f3, f4, f5, f6, f7, f8, f9, f10, f11, f12, f13, f14, f15, f16, f17, f18, f19, f20, f21, f22, f23, f24, f25, f26, f27, f28, f29, f30, f31, f32, f33, f34⟩ := hΦ
              have d33 := f33 (hd 33 (by kernel_rfl))
              have e70 : a.tmps[70]? = some (x 70) := hx 33 _ 70 rfl rfl (hd 33 (by kernel_rfl))
              have l33 := hd 33 (by kernel_rfl)
              clear hf hx hd
              go_simp
              refine hK _ _ ?_
              exact ⟨hI, fun h => f0 h, fun h => f1 h, fun h => f2 h, fun h => f3 h, fun h => f4 h, fun h => f5 h, fun h => f6 h, fun h => f7 h, fun h => f8 h, fun h => f9 h, fun h => f10 h, fun h => f11 h, fun h => f12 h, fun h => f13 h, fun h => f14 h, fun h => f15 h, fun h => f16 h, fun h => f17 h, fun h => f18 h, fun h => f19 h, fun h => f20 h, fun h => f21 h, fun h => f22 h, fun h => f23 h, fun h => f24 h, fun h => f25 h, fun h => f26 h, fun h => f27 h, fun h => f28 h, fun h => f29 h, fun h => f30 h, fun h => f31 h, fun h => f32 h, fun h => f33 h, fun _ => ⟨l33, rfl⟩⟩
            · rintro x W ⟨hI, f0, f1, f2, f3, f4, f5, f6, f7, f8, f9, f10, f11, f12, f13, f14, f15, f16, f17, f18, f19, f20, f21, f22, f23, f24, f25, f26, f27, f28, f29, f30, f31, f32, f33, f34⟩
              obtain ⟨_, _, ds, hdl, hdo, ho⟩ := f33 (by kernel_rfl)
              have h34 := (f34 (by kernel_rfl)).2
              obtain ⟨g, c, hf, _, _⟩ := own_form9 ho (by omega)
              simp only [Exit.then]
              go_step
              go_meet
              case rel => exact ⟨g, c, ds, h34.trans hf, hdl, hdo, by rw [← hf]; exact ho, hI⟩
        case rest =>
          obtain ⟨g, c, ds, rfl, hdl, hdo, ho, hB⟩ := hcut
          have ht := tells_ds (w := wc) (g := g) (c := c) ⟨#[97]⟩ (by decide) hdl (by omega) (fun j u hj => by
            have hlt := (List.getElem?_eq_some_iff.1 hj).1
            rw [dosFlat_length, hdl] at hlt
            rw [ho.cellAt j (by omega)]
            exact hj) hdo
          unfold RetTr at ht
          have HTL := Lib.hid ht
          have HBc := Lib.hid hB
          clear ht hB ho hdl hdo
          go_step
          go_wp2_with (fail)
          (with_reducible refine HTL.out.mono ?_)
          rintro e w8 ⟨rfl, hB8⟩
          have HB8 := Lib.hid hB8
          clear hB8
          go_wp2_with (fail)
          go_roundw
          case rel => exact ⟨k + 1, by omega, by go_num, HBc.out.trans (HB8.out.mono HBc.out.size)⟩
          case measure => simp [intOf]; omega
      · go_wp2_with (fail)
        go_meet
        case rel => exact HB2.out.trans (HBr.out.mono HB2.out.size)
  case rest =>
    rename_i wc
    obtain ⟨N, hN⟩ : ∃ N : Nat, N = 16384 := ⟨_, rfl⟩
    have hmk := zerosS_make N (by omega)
    rw [show ((N : Nat) : Int) = 16384 by omega] at hmk
    have hcv := zerosS_conv N
    have hzs := zerosS_size N
    obtain ⟨LS, hLS⟩ : ∃ LS, zerosS N = LS := ⟨_, rfl⟩
    rw [hLS] at hcv hzs
    have hls : (LS.size : Int) = 16384 := by omega
    have HZS := Lib.hid (show LS.size = 16384 by omega)
    clear hLS hN hzs
    go_step
    go_upto_region 11 with (fail)
    obtain ⟨w9, hw9⟩ : ∃ w9, w9 = wc.alloc (.cells (madeCells #[.int .u8 0] N) 5) := ⟨_, rfl⟩
    rw [← hw9]
    have HB9 : Hid (Below w.heap.size w w9) := Lib.hid (by rw [hw9]; exact hcut.alloc hcut.size _)
    have H1 := Lib.hid (fun W => tells_new W LS (by rw [HZS.out]; decide) (lngD LS) 7 rfl (by omega) (lng_ok LS HZS.out))
    have H2 := Lib.hid (fun W => tells_none W (LS ++ ⟨#[120]⟩) (by rw [ByteArray.size_append, HZS.out]; decide))
    have H3 := Lib.hid (fun W => tells_new W ⟨#[]⟩ (by decide) shrD 6 rfl (by omega) shr_ok)
    clear hw9 hmk hcv hcut
    go_wp2_with (fail)
    refine (H1.out w9).mono ?_
    rintro e wa ⟨rfl, hBa⟩
    have HBa := Lib.hid (HB9.out.trans (Below.mono (((Below.refl _ w9).alloc (Nat.le_refl _) _).trans (hBa.mono (by simp))) HB9.out.size))
    clear hBa
    go_wp2_with (fail)
    refine (H2.out wa).mono ?_
    rintro e wb ⟨rfl, hBb⟩
    have HBb := Lib.hid (HBa.out.trans (hBb.mono HBa.out.size))
    clear hBb
    go_wp2_with (fail)
    refine (H3.out wb).mono ?_
    rintro e wd ⟨rfl, hBd⟩
    have HBd := Lib.hid (HBb.out.trans (Below.mono (((Below.refl _ wb).alloc (Nat.le_refl _) _).trans (hBd.mono (by simp))) HBb.out.size))
    clear hBd
    go_upto_block 2 with (fail)
    go_cut [7, 8] from 113 to 132 (fun a b wx => Below w.heap.size w wx)
    case first =>
      have H4 := Lib.hid (fun W p q now => opens_new W now (treD p q) 4 rfl (by omega) (tre_ok p q))
      go_wp2_with (fail)
      go_loopw [7] (fun i wr => ∃ k : Nat, k ≤ 64 ∧ i = .int .i64 k ∧ Below w.heap.size w wr) (fun i _ => 64 - (intOf i).toNat)
      case atStart => exact ⟨0, by omega, rfl, HBd.out⟩
      case round =>
        obtain ⟨k, hk, rfl, hBr⟩ := hrel
        have HBr := Lib.hid hBr
        clear hBr
        by_cases hkn : (k : Int) < 64
        · have b0 : (0 : Int) ≤ (k : Int) := by omega
          go_wp2_with (fail)
          refine (H4.out wr _ _ _).mono ?_
          rintro e we ⟨rfl, hBe⟩
          have HBe := Lib.hid (HBr.out.trans (Below.mono (((Below.refl _ wr).alloc (Nat.le_refl _) _).trans (hBe.mono (by simp))) HBr.out.size))
          clear hBe
          go_wp2_with (fail)
          go_roundw
          case rel => exact ⟨k + 1, by omega, by go_num, HBe.out⟩
          case measure => simp [intOf]; omega
        · go_wp2_with (fail)
          go_meet
          case rel => exact HBr.out
    case rest =>
      rename World => wg
      go_step
      go_upto_block 4 with (fail)
      obtain ⟨gg, hgg⟩ : ∃ gg, gg = wg.heap.size := ⟨_, rfl⟩
      obtain ⟨wh, hwh⟩ : ∃ wh, wh = wg.alloc (.cells (entsFlat gudE).toArray 45) := ⟨_, rfl⟩
      change Code.wp _ _ _ _ (wg.alloc (.cells (entsFlat gudE).toArray 45))
      rw [← hwh, ← hgg]
      have HBh : Hid (Below w.heap.size w wh) := Lib.hid (by rw [hwh]; exact hcut.alloc hcut.size _)
      have HXg : Hid (wh.heap[gg]? = some (.cells (entsFlat gudE).toArray 45 (0, 0))) := Lib.hid (by rw [hwh, hgg]; exact HK.blk_new _ _)
      clear hwh hgg hcut
      have HNX : Hid (okN ⟨0, 1, LS.extract 0 100 ++ ⟨#[120]⟩, ⟨#[99]⟩⟩) := Lib.hid ⟨(show (⟨#[99]⟩ : ByteArray).size ≤ maxLen by decide), by
        have e1 : (⟨#[120]⟩ : ByteArray).size = 1 := by decide
        show (LS.extract 0 100 ++ ⟨#[120]⟩).size ≤ maxLen
        rw [ByteArray.size_append, e1, ByteArray.size_extract]
        simp only [maxLen]
        omega⟩
      have HLX : Hid (okN ⟨0, 1, ⟨#[]⟩, LS ++ ⟨#[120]⟩⟩) := Lib.hid ⟨by
        have e1 : (⟨#[120]⟩ : ByteArray).size = 1 := by decide
        have e2 := HZS.out
        show (LS ++ ⟨#[120]⟩).size ≤ maxLen
        rw [ByteArray.size_append, e1]
        simp only [maxLen]
        omega, (show (⟨#[]⟩ : ByteArray).size ≤ maxLen by decide)⟩
      go_cut [10, 11, 12] from 138 to 219 (fun a b c wx => Below w.heap.size w wx)
      case first =>
        as_aux_lemma =>
          go_wp2_with (fail)
          go_loopw [10] (fun i wr => ∃ k : Nat, k ≤ 16 ∧ i = .int .i64 k ∧ Below wh.heap.size wh wr) (fun i _ => 16 - (intOf i).toNat)
          case atStart => exact ⟨0, by omega, rfl, Below.refl _ _⟩
          case round =>
            obtain ⟨k, hk, rfl, hBr⟩ := hrel
            have HBr := Lib.hid hBr
            clear hBr
            by_cases hkn : (k : Int) < 16
            · have b0 : (0 : Int) ≤ (k : Int) := by omega
              go_upto_block 6 with (
                at_builtin
                refine wpList_app_any rfl elem38 _ _ rfl (.slice (some ⟨wr.heap.size, 0, none⟩) 0 0) wr.heap.size 0 [] rfl (empty_row wr 45 4) ⟨gg, 0, none⟩ 4 4 (entsFlat gudE) rfl (by rfl) (fun j u hj => by rw [addr_add0, HK.blk_cell (HK.blk_alloc (blk_up9 HBr.out HXg.out) _), List.getElem?_toArray]; exact hj) (ents_one _) (by simp only [maxLen]; omega) (by omega) (by simp) ?_
                intro v3 w3 hown hgrow hnil hat)
              rw [Nat.zero_add, List.nil_append] at hown
              obtain ⟨g, c, rfl, hg3, hl3⟩ := own_form9 hown (by omega)
              have HB3 : Hid (Below wr.heap.size wr w3) := Lib.hid (((Below.refl wr.heap.size wr).alloc (Nat.le_refl _) (.cells #[] 45)).grown hgrow (by simp) (fun k hk => by have h2 : wr.heap.size = k := Option.some.inj hk; omega))
              have HG3 := Lib.hid hg3
              have HO := Lib.hid hown
              clear hown hg3 hl3 hgrow hat hnil
              go_cut [11, 12] from 145 to 214 (fun l nw wx => SwE wr wx l nw)
              case first =>
                rcases (by omega : k = 0 ∨ k = 1 ∨ k = 2 ∨ k = 3 ∨ k = 4 ∨ k = 5 ∨ k = 6 ∨ k = 7 ∨ k = 8 ∨ k = 9 ∨ k = 10 ∨ k = 11 ∨ k = 12 ∨ k = 13 ∨ k = 14 ∨ k = 15) with rfl | rfl | rfl | rfl | rfl | rfl | rfl | rfl | rfl | rfl | rfl | rfl | rfl | rfl | rfl | rfl
                · as_aux_lemma =>
                    go_wp2_with (fail)
                    go_meet
                    case rel => exact swe_stay HB3.out HO.out rfl gud_ok
                · as_aux_lemma =>
                    have hc : w3.cell? ⟨g, 0, none⟩ = some (.int .i64 (-1)) := HO.out.cellAt 0 (by decide)
                    have hf : w3.frozen? ⟨g, 0, none⟩ = false := HO.out.frozenAt 0
                    go_wp2_with (fail)
                    go_meet
                    case rel => exact swe_set (es' := [⟨0, 0, ⟨#[]⟩, ⟨#[97]⟩⟩, ⟨0, 2, ⟨#[110]⟩, ⟨#[98]⟩⟩, ⟨1, 2, ⟨#[]⟩, ⟨#[97]⟩⟩, ⟨0, 1, ⟨#[]⟩, ⟨#[99]⟩⟩]) 0 (.int .i64 (0)) HB3.out HG3.out HO.out rfl rfl (ok4 (⟨by decide, by decide⟩) (⟨by decide, by decide⟩) (⟨by decide, by decide⟩) (⟨by decide, by decide⟩))
                · as_aux_lemma =>
                    have hc : w3.cell? ⟨g, 2, none⟩ = some (.string ⟨#[]⟩) := HO.out.cellAt 2 (by decide)
                    have hf : w3.frozen? ⟨g, 2, none⟩ = false := HO.out.frozenAt 2
                    go_wp2_with (fail)
                    go_meet
                    case rel => exact swe_set (es' := [⟨-1, 0, ⟨#[110]⟩, ⟨#[97]⟩⟩, ⟨0, 2, ⟨#[110]⟩, ⟨#[98]⟩⟩, ⟨1, 2, ⟨#[]⟩, ⟨#[97]⟩⟩, ⟨0, 1, ⟨#[]⟩, ⟨#[99]⟩⟩]) 2 (.string ⟨#[110]⟩) HB3.out HG3.out HO.out rfl rfl (ok4 (⟨by decide, by decide⟩) (⟨by decide, by decide⟩) (⟨by decide, by decide⟩) (⟨by decide, by decide⟩))
                · as_aux_lemma =>
                    have hc : w3.cell? ⟨g, 1, none⟩ = some (.int .i64 (0)) := HO.out.cellAt 1 (by decide)
                    have hf : w3.frozen? ⟨g, 1, none⟩ = false := HO.out.frozenAt 1
                    go_wp2_with (fail)
                    go_meet
                    case rel => exact swe_set (es' := [⟨-1, 1, ⟨#[]⟩, ⟨#[97]⟩⟩, ⟨0, 2, ⟨#[110]⟩, ⟨#[98]⟩⟩, ⟨1, 2, ⟨#[]⟩, ⟨#[97]⟩⟩, ⟨0, 1, ⟨#[]⟩, ⟨#[99]⟩⟩]) 1 (.int .i64 (1)) HB3.out HG3.out HO.out rfl rfl (ok4 (⟨by decide, by decide⟩) (⟨by decide, by decide⟩) (⟨by decide, by decide⟩) (⟨by decide, by decide⟩))
                · as_aux_lemma =>
                    have hc : w3.cell? ⟨g, 4, none⟩ = some (.int .i64 (0)) := HO.out.cellAt 4 (by decide)
                    have hf : w3.frozen? ⟨g, 4, none⟩ = false := HO.out.frozenAt 4
                    go_wp2_with (fail)
                    go_meet
                    case rel => exact swe_set (es' := [⟨-1, 0, ⟨#[]⟩, ⟨#[97]⟩⟩, ⟨1, 2, ⟨#[110]⟩, ⟨#[98]⟩⟩, ⟨1, 2, ⟨#[]⟩, ⟨#[97]⟩⟩, ⟨0, 1, ⟨#[]⟩, ⟨#[99]⟩⟩]) 4 (.int .i64 (1)) HB3.out HG3.out HO.out rfl rfl (ok4 (⟨by decide, by decide⟩) (⟨by decide, by decide⟩) (⟨by decide, by decide⟩) (⟨by decide, by decide⟩))
                · as_aux_lemma =>
                    have hc : w3.cell? ⟨g, 4, none⟩ = some (.int .i64 (0)) := HO.out.cellAt 4 (by decide)
                    have hf : w3.frozen? ⟨g, 4, none⟩ = false := HO.out.frozenAt 4
                    go_wp2_with (fail)
                    go_meet
                    case rel => exact swe_set (es' := [⟨-1, 0, ⟨#[]⟩, ⟨#[97]⟩⟩, ⟨-1, 2, ⟨#[110]⟩, ⟨#[98]⟩⟩, ⟨1, 2, ⟨#[]⟩, ⟨#[97]⟩⟩, ⟨0, 1, ⟨#[]⟩, ⟨#[99]⟩⟩]) 4 (.int .i64 (-1)) HB3.out HG3.out HO.out rfl rfl (ok4 (⟨by decide, by decide⟩) (⟨by decide, by decide⟩) (⟨by decide, by decide⟩) (⟨by decide, by decide⟩))
                · as_aux_lemma =>
                    have hc : w3.cell? ⟨g, 8, none⟩ = some (.int .i64 (1)) := HO.out.cellAt 8 (by decide)
                    have hf : w3.frozen? ⟨g, 8, none⟩ = false := HO.out.frozenAt 8
                    go_wp2_with (fail)
                    go_meet
                    case rel => exact swe_set (es' := [⟨-1, 0, ⟨#[]⟩, ⟨#[97]⟩⟩, ⟨0, 2, ⟨#[110]⟩, ⟨#[98]⟩⟩, ⟨3, 2, ⟨#[]⟩, ⟨#[97]⟩⟩, ⟨0, 1, ⟨#[]⟩, ⟨#[99]⟩⟩]) 8 (.int .i64 (3)) HB3.out HG3.out HO.out rfl rfl (ok4 (⟨by decide, by decide⟩) (⟨by decide, by decide⟩) (⟨by decide, by decide⟩) (⟨by decide, by decide⟩))
                · as_aux_lemma =>
                    have hc : w3.cell? ⟨g, 9, none⟩ = some (.int .i64 (2)) := HO.out.cellAt 9 (by decide)
                    have hf : w3.frozen? ⟨g, 9, none⟩ = false := HO.out.frozenAt 9
                    go_wp2_with (fail)
                    go_meet
                    case rel => exact swe_set (es' := [⟨-1, 0, ⟨#[]⟩, ⟨#[97]⟩⟩, ⟨0, 2, ⟨#[110]⟩, ⟨#[98]⟩⟩, ⟨1, 1, ⟨#[]⟩, ⟨#[97]⟩⟩, ⟨0, 1, ⟨#[]⟩, ⟨#[99]⟩⟩]) 9 (.int .i64 (1)) HB3.out HG3.out HO.out rfl rfl (ok4 (⟨by decide, by decide⟩) (⟨by decide, by decide⟩) (⟨by decide, by decide⟩) (⟨by decide, by decide⟩))
                · as_aux_lemma =>
                    have hc : w3.cell? ⟨g, 11, none⟩ = some (.string ⟨#[97]⟩) := HO.out.cellAt 11 (by decide)
                    have hf : w3.frozen? ⟨g, 11, none⟩ = false := HO.out.frozenAt 11
                    go_wp2_with (fail)
                    go_meet
                    case rel => exact swe_set (es' := [⟨-1, 0, ⟨#[]⟩, ⟨#[97]⟩⟩, ⟨0, 2, ⟨#[110]⟩, ⟨#[98]⟩⟩, ⟨1, 2, ⟨#[]⟩, ⟨#[98]⟩⟩, ⟨0, 1, ⟨#[]⟩, ⟨#[99]⟩⟩]) 11 (.string ⟨#[98]⟩) HB3.out HG3.out HO.out rfl rfl (ok4 (⟨by decide, by decide⟩) (⟨by decide, by decide⟩) (⟨by decide, by decide⟩) (⟨by decide, by decide⟩))
                · as_aux_lemma =>
                    have hc : w3.cell? ⟨g, 15, none⟩ = some (.string ⟨#[99]⟩) := HO.out.cellAt 15 (by decide)
                    have hf : w3.frozen? ⟨g, 15, none⟩ = false := HO.out.frozenAt 15
                    go_wp2_with (fail)
                    go_meet
                    case rel => exact swe_set (es' := [⟨-1, 0, ⟨#[]⟩, ⟨#[97]⟩⟩, ⟨0, 2, ⟨#[110]⟩, ⟨#[98]⟩⟩, ⟨1, 2, ⟨#[]⟩, ⟨#[97]⟩⟩, ⟨0, 1, ⟨#[]⟩, ⟨#[97]⟩⟩]) 15 (.string ⟨#[97]⟩) HB3.out HG3.out HO.out rfl rfl (ok4 (⟨by decide, by decide⟩) (⟨by decide, by decide⟩) (⟨by decide, by decide⟩) (⟨by decide, by decide⟩))
                · as_aux_lemma =>
                    have hc : w3.cell? ⟨g, 13, none⟩ = some (.int .i64 (1)) := HO.out.cellAt 13 (by decide)
                    have hf : w3.frozen? ⟨g, 13, none⟩ = false := HO.out.frozenAt 13
                    go_wp2_with (fail)
                    go_meet
                    case rel => exact swe_set (es' := [⟨-1, 0, ⟨#[]⟩, ⟨#[97]⟩⟩, ⟨0, 2, ⟨#[110]⟩, ⟨#[98]⟩⟩, ⟨1, 2, ⟨#[]⟩, ⟨#[97]⟩⟩, ⟨0, -1, ⟨#[]⟩, ⟨#[99]⟩⟩]) 13 (.int .i64 (-1)) HB3.out HG3.out HO.out rfl rfl (ok4 (⟨by decide, by decide⟩) (⟨by decide, by decide⟩) (⟨by decide, by decide⟩) (⟨by decide, by decide⟩))
                · as_aux_lemma =>
                    go_wp2_with (fail)
                    go_meet
                    case rel => exact swe_stay HB3.out HO.out rfl gud_ok
                · as_aux_lemma =>
                    go_wp2_with (fail)
                    go_meet
                    case rel => exact swe_stay HB3.out HO.out rfl gud_ok
                · as_aux_lemma =>
                    have hc : w3.cell? ⟨g, 14, none⟩ = some (.string ⟨#[]⟩) := HO.out.cellAt 14 (by decide)
                    have hf : w3.frozen? ⟨g, 14, none⟩ = false := HO.out.frozenAt 14
                    go_wp2_with (fail)
                    go_meet
                    case rel => exact swe_set (es' := [⟨-1, 0, ⟨#[]⟩, ⟨#[97]⟩⟩, ⟨0, 2, ⟨#[110]⟩, ⟨#[98]⟩⟩, ⟨1, 2, ⟨#[]⟩, ⟨#[97]⟩⟩, ⟨0, 1, (LS.extract 0 100 ++ ⟨#[120]⟩), ⟨#[99]⟩⟩]) 14 (.string (LS.extract 0 100 ++ ⟨#[120]⟩)) HB3.out HG3.out HO.out rfl rfl (ok4 (⟨by decide, by decide⟩) (⟨by decide, by decide⟩) (⟨by decide, by decide⟩) (HNX.out))
                · as_aux_lemma =>
                    have hc : w3.cell? ⟨g, 15, none⟩ = some (.string ⟨#[99]⟩) := HO.out.cellAt 15 (by decide)
                    have hf : w3.frozen? ⟨g, 15, none⟩ = false := HO.out.frozenAt 15
                    go_wp2_with (fail)
                    go_meet
                    case rel => exact swe_set (es' := [⟨-1, 0, ⟨#[]⟩, ⟨#[97]⟩⟩, ⟨0, 2, ⟨#[110]⟩, ⟨#[98]⟩⟩, ⟨1, 2, ⟨#[]⟩, ⟨#[97]⟩⟩, ⟨0, 1, ⟨#[]⟩, (LS ++ ⟨#[120]⟩)⟩]) 15 (.string (LS ++ ⟨#[120]⟩)) HB3.out HG3.out HO.out rfl rfl (ok4 (⟨by decide, by decide⟩) (⟨by decide, by decide⟩) (⟨by decide, by decide⟩) (HLX.out))
                · as_aux_lemma =>
                    go_wp2_with (fail)
                    go_meet
                    case rel => exact swe_nil HB3.out
              case rest =>
                rename World => wk
                have HCU := Lib.hid hcut
                clear hcut
                go_step
                go_wp2_with (fail)
                (with_reducible refine (swe_call HCU.out).mono ?_)
                rintro e we ⟨rfl, hBe⟩
                have HBe : Hid (Below wh.heap.size wh we) := Lib.hid (HBr.out.trans ((HCU.out.below.mono HBr.out.size).trans (hBe.mono (Nat.le_trans HBr.out.size HCU.out.below.size))))
                clear hBe
                go_wp2_with (fail)
                go_roundw
                case rel => exact ⟨k + 1, by omega, by go_num, HBe.out⟩
                case measure => simp [intOf]; omega
            · go_wp2_with (fail)
              go_meet
              case rel => exact HBh.out.trans (HBr.out.mono HBh.out.size)
      case rest =>
        rename World => wi
        go_step
        go_upto_block 7 with (fail)
        obtain ⟨gm, hgm⟩ : ∃ gm, gm = wi.heap.size := ⟨_, rfl⟩
        obtain ⟨wj, hwj⟩ : ∃ wj, wj = wi.alloc (.cells (entsFlat (manyL 1)).toArray 45) := ⟨_, rfl⟩
        change Code.wp _ _ _ _ (wi.alloc (.cells (entsFlat (manyL 1)).toArray 45))
        rw [← hwj, ← hgm]
        have HMj : Hid (ManI w 1 (.slice (some ⟨gm, 0, none⟩) 1 1) wj) := Lib.hid ⟨gm, 1, rfl, by rw [hwj, hgm]; exact World.ownsRow_lit wi _ 1 hcut.size (by simp only [maxLen]; omega) rfl, by rw [hwj]; exact hcut.alloc hcut.size _⟩
        clear hwj hgm hcut
        go_cut [13, 14] from 222 to 236 (fun l i wx => ManI w 1000 l wx)
        case first =>
          as_aux_lemma =>
            go_wp2_with (fail)
            go_loopw [13, 14] (fun l i wr => ∃ (vo : Value) (k : Nat), vo = l ∧ 1 ≤ k ∧ k ≤ 1000 ∧ i = .int .i64 k ∧ ManI w k vo wr) (fun _ i _ => 1000 - (intOf i).toNat)
            case atStart => exact ⟨_, 1, rfl, by omega, by omega, rfl, HMj.out⟩
            case round =>
              obtain ⟨vo, k, rfl, h1, hk, rfl, hM⟩ := hrel
              by_cases hkn : (k : Int) < 1000
              · obtain ⟨g, c, rfl, ho, hB⟩ := hM
                have HO := Lib.hid ho
                have HB := Lib.hid hB
                clear ho hB
                have b0 : (0 : Int) ≤ (k : Int) := by omega
                obtain ⟨bb, hbb, hb2⟩ : ∃ bb : Nat, (k : Int).tmod 2 = (bb : Int) ∧ k % 2 = bb := ⟨k % 2, by rw [Int.tmod_eq_emod_of_nonneg b0]; omega, rfl⟩
                have hst : Utf8.encode (97 + bb) = stK k := by
                  unfold stK
                  rcases (by omega : bb = 0 ∨ bb = 1) with rfl | rfl
                  · rw [if_pos hb2]; decide +kernel
                  · rw [if_neg (by omega)]; decide +kernel
                have hb3 : bb < 2 := by omega
                have HST := Lib.hid hb2
                clear hb2
                go_wp2_with (
                  at_builtin
                  refine wpList_app_any rfl elem38 _ _ rfl (.slice (some ⟨g, 0, none⟩) k c) w.heap.size k (entsFlat (manyL k)) rfl (HO.out.alloc _) ⟨wr.heap.size, 0, none⟩ 1 1 (entsFlat [entK k]) rfl (by rfl) (fun j u hj => by rw [addr_add0, HK.blk_cell (HK.blk_new _ _), List.getElem?_toArray, ← ent_cells k h1]; exact hj) (ents_one _) (by simp only [maxLen]; omega) (by omega) (Nat.le_trans HB.out.size (by simp)) ?_
                  intro v3 w3 hown hgrow hnil hat)
                go_roundw
                case rel => exact ⟨_, k + 1, rfl, by omega, by omega, by go_num, many_next (w4 := wr) (g := g) (c := c) hown ((HB.out.alloc HB.out.size _).grown hgrow (Nat.le_trans HB.out.size (by simp)) (fun m hm => own_ge HO.out m hm))⟩
                case measure => simp [intOf]; omega
              · obtain rfl : k = 1000 := by omega
                go_wp2_with (fail)
                go_meet
                case rel => exact hM
        case rest =>
          rename World => wk
          obtain ⟨g, c, rfl, ho, hB⟩ := hcut
          have hes : EntsAt wk g (manyL 1000) := EntsAt.of ho (many_len _).symm
          have hop : Calls Try.prog 27 #[.slice (some ⟨g, 0, none⟩) 1000 c, .int .i64 999] wk (OpenI wk (manyL 1000) 999) := open_yes wk g 1000 c (manyL 1000) 999 hes (many_len _) (by omega) many_short many_right
          unfold OpenI at hop
          have HOP := Lib.hid hop
          have HO := Lib.hid ho
          have HB := Lib.hid hB
          clear ho hB hes hop
          go_step
          go_wp2_with (fail)
          (with_reducible refine HOP.out.mono ?_)
          rintro e w5 ⟨t, F, rfl, hH, hB5, hF5⟩
          have HB5 := Lib.hid hB5
          have HH := Lib.hid hH
          have hdo1 : Calls Try.prog 17 #[.pointer (some ⟨t, 0, none⟩), .string ⟨#[122]⟩, .string ⟨#[]⟩, .int .i64 0] w5 (fun e w' => e = .returned (.tuple #[.int .i64 0, .int .i64 4]) ∧ Below w5.heap.size w5 w') := (do_any hH ⟨#[122]⟩ ⟨#[]⟩ 0 (by decide) (by decide)).mono fun e w' h => h.1 _ many_do.1
          have HD1 := Lib.hid hdo1
          clear hB5 hH hdo1 hF5
          go_wp2_with (fail)
          (with_reducible refine HD1.out.mono ?_)
          rintro e w6 ⟨rfl, hB6⟩
          have hH6 := HH.out.stay (Frm.of_below hB6 (fun _ => False)) (fun _ _ => id)
          have hdo2 : Calls Try.prog 17 #[.pointer (some ⟨t, 0, none⟩), .string ⟨#[122]⟩, .string ⟨#[]⟩, .int .i64 (-1)] w6 (fun e w' => e = .returned (.tuple #[.int .i64 0, .int .i64 2]) ∧ Below w6.heap.size w6 w') := (do_any hH6 ⟨#[122]⟩ ⟨#[]⟩ (-1) (by decide) (by decide)).mono fun e w' h => h.1 _ many_do.2
          have HD2 := Lib.hid hdo2
          have HB6 : Hid (Below wk.heap.size wk w6) := Lib.hid (HB5.out.trans (hB6.mono HB5.out.size))
          clear hB6 hH6 hdo2
          go_wp2_with (fail)
          (with_reducible refine HD2.out.mono ?_)
          rintro e w7 ⟨rfl, hB7⟩
          have hB7w : Below wk.heap.size wk w7 := HB6.out.trans (hB7.mono HB6.out.size)
          have HB7 := Lib.hid hB7w
          have ho7 : w7.ownsRow w.heap.size 45 4 (.slice (some ⟨g, 0, none⟩) 1000 c) 1000 (entsFlat (manyL 1000)) := own_below9 HO.out hB7w
          have HO7 := Lib.hid ho7
          have hc : ∀ j, j < 4 → w7.cell? ⟨g, 999 * 4 + j, none⟩ = (entCells (entK 999))[j]? := fun j hj => (ho7.cellAt _ (by omega)).trans (entsFlat_get (manyL 1000) 999 j _ (many_get (by omega)) hj)
          have c0 : w7.cell? ⟨g, 3996, none⟩ = some (.int .i64 998) := hc 0 (by omega)
          have c1 : w7.cell? ⟨g, 3997, none⟩ = some (.int .i64 0) := hc 1 (by omega)
          have c2 : w7.cell? ⟨g, 3998, none⟩ = some (.string ⟨#[]⟩) := hc 2 (by omega)
          have c3 : w7.cell? ⟨g, 3999, none⟩ = some (.string ⟨#[98]⟩) := hc 3 (by omega)
          clear hB7 hB7w ho7 hc
          have HA := Lib.hid (fun W => awake_any W)
          go_wp2_with (first
            | (at_builtin
               refine wpList_app1h (by rfl) elem38 _ _ rfl (.slice (some ⟨g, 0, none⟩) 1000 c) 1000 (entsFlat (manyL 1000)) rfl (own_mono0 (HO7.out.alloc _)) w7.heap.size 1 #[.int .i64 998, .int .i64 0, .string ⟨#[]⟩, .string ⟨#[98]⟩] rfl (HK.blk_new w7 _) rfl (by simp [Value.oneCell']) (by simp only [maxLen]; omega) (by omega) ?_
               intro g8 c8 w8 hown hgrow hat hlt
               have hown2 : w8.ownsRow 0 45 4 (.slice (some ⟨g8, 0, none⟩) 1001 c8) 1001 (entsFlat (manyL 1000 ++ [entK 999])) := by rw [entsFlat_append]; exact hown
               have hopn : Calls Try.prog 9 #[.slice (some ⟨g8, 0, none⟩) 1001 c8, .int .i64 0] w8 (RetTr w8) := opens_es 0 (by rw [List.length_append, many_len]; rfl) (by omega) (cells_own hown2) (fun d hd => (List.mem_append.1 hd).elim (many_ok 1000 d) (fun h => by rw [List.mem_singleton.1 h]; exact entK_ok 999))
               unfold RetTr at hopn
               have HOPN := Lib.hid hopn
               have HB8 : Hid (Below w.heap.size w w8) := Lib.hid (((HB.out.trans (HB7.out.mono HB.out.size)).alloc (Nat.le_trans HB.out.size HB7.out.size) _).grown hgrow (Nat.le_trans (Nat.le_trans HB.out.size HB7.out.size) (by simp)) (fun m hm => own_ge HO7.out m hm))
               clear hown hown2 hgrow hat hlt hopn)
            | (go_at_call 9; ((with_reducible refine HOPN.out.mono ?_); rintro e w9 ⟨rfl, hB9⟩; have HB9 := Lib.hid (HB8.out.trans (hB9.mono HB8.out.size)); clear hB9))
            | (go_at_call 12; ((with_reducible refine (HA.out _).mono ?_); rintro e wt ⟨rfl, hBt⟩; have HBt := Lib.hid (HB9.out.trans (hBt.mono HB9.out.size)); clear hBt)))
          go_ret
          exact ⟨rfl, HBt.out⟩
end Go.Proofs.Ythneinepdbkgeaa
