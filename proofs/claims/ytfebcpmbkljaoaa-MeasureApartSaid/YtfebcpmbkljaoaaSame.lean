/- Same and SameProof at plain proofs that are equal. -/
import Derived.Test.YtfebcpmbkljaoaaLimB
import Derived.Deep.RegionHeld3
namespace Go.Proofs.Ytfebcpmbkljaoaa
open Go.RowKit Go.HR
set_option linter.unusedVariables false
set_option linter.unusedSimpArgs false
set_option linter.unusedSectionVars false
set_option maxRecDepth 100000 in
set_option maxHeartbeats 2000000 in
theorem same80_nil (w : World) : Calls Try.prog 80 #[.slice none 0 0, .slice none 0 0] w fun e w' => e = .returned (.bool true) ∧ w' = w := by
  go_enter Try.func80, Try.ntmps80
  go_wp2_with (fail)
  go_loopw [5] (fun k wr => k = .int .i64 0 ∧ wr = w) (fun _ _ => 0)
  case atStart => exact ⟨rfl, rfl⟩
  case round =>
    obtain ⟨rfl, rfl⟩ := hrel
    go_wp2_with (fail)
    go_ret
    exact ⟨rfl, rfl⟩
set_option maxRecDepth 100000 in
set_option maxHeartbeats 2000000 in
theorem same81_nil (w : World) : Calls Try.prog 81 #[.slice none 0 0, .slice none 0 0] w fun e w' => e = .returned (.bool true) ∧ w' = w := by
  go_enter Try.func81, Try.ntmps81
  go_wp2_with (fail)
  go_loopw [5] (fun k wr => k = .int .i64 0 ∧ wr = w) (fun _ _ => 0)
  case atStart => exact ⟨rfl, rfl⟩
  case round =>
    obtain ⟨rfl, rfl⟩ := hrel
    go_wp2_with (fail)
    go_ret
    exact ⟨rfl, rfl⟩
set_option maxRecDepth 100000 in
set_option maxHeartbeats 2000000 in
theorem same71_nil (w : World) : Calls Try.prog 71 #[.slice none 0 0, .slice none 0 0] w fun e w' => e = .returned (.bool true) ∧ w' = w := by
  go_enter Try.func71, Try.ntmps71
  go_wp2_with (fail)
  go_loopw [5] (fun k wr => k = .int .i64 0 ∧ wr = w) (fun _ _ => 0)
  case atStart => exact ⟨rfl, rfl⟩
  case round =>
    obtain ⟨rfl, rfl⟩ := hrel
    go_wp2_with (fail)
    go_ret
    exact ⟨rfl, rfl⟩
set_option maxRecDepth 100000 in
set_option maxHeartbeats 4000000 in
theorem same69_nil (w : World) (op : Int) (name : ByteArray) : Calls Try.prog 69 #[.agg #[.int .u8 op, .string name, .slice none 0 0, .slice none 0 0], .agg #[.int .u8 op, .string name, .slice none 0 0, .slice none 0 0]] w fun e w' => e = .returned (.bool true) ∧ w' = (w.alloc (.cells #[.int .u8 op, .string name, .slice none 0 0, .slice none 0 0] 26)).alloc (.cells #[.int .u8 op, .string name, .slice none 0 0, .slice none 0 0] 26) := by
  have h0 := fun W => same80_nil W
  have h1 := fun W => same81_nil W
  have H0 := Lib.hid h0
  have H1 := Lib.hid h1
  clear h0 h1
  go_enter Try.func69, Try.ntmps69
  go_upto_region 1 with (fail)
  obtain ⟨w1, hw1⟩ : ∃ w1, w1 = (w.alloc (.cells #[.int .u8 op, .string name, .slice none 0 0, .slice none 0 0] 26)).alloc (.cells #[.int .u8 op, .string name, .slice none 0 0, .slice none 0 0] 26) := ⟨_, rfl⟩
  rw [← hw1]
  have k1 : w1.heap[w.heap.size]? = some (.cells #[.int .u8 op, .string name, .slice none 0 0, .slice none 0 0] 26 (0, 0)) := by rw [hw1]; exact HK.blk_alloc (HK.blk_new _ _) _
  have k2 : w1.heap[w.heap.size + 1]? = some (.cells #[.int .u8 op, .string name, .slice none 0 0, .slice none 0 0] 26 (0, 0)) := by rw [hw1]; exact blk_new1 _ _ _
  have HW1 := Lib.hid hw1
  have x0 : w1.cell? ⟨w.heap.size, 0, none⟩ = some (.int .u8 op) := HK.blk_cell k1 0
  have x1 : w1.cell? ⟨w.heap.size, 1, none⟩ = some (.string name) := HK.blk_cell k1 1
  have x2 : w1.cell? ⟨w.heap.size, 2, none⟩ = some (.slice none 0 0) := HK.blk_cell k1 2
  have x3 : w1.cell? ⟨w.heap.size, 3, none⟩ = some (.slice none 0 0) := HK.blk_cell k1 3
  have y0 : w1.cell? ⟨w.heap.size + 1, 0, none⟩ = some (.int .u8 op) := HK.blk_cell k2 0
  have y1 : w1.cell? ⟨w.heap.size + 1, 1, none⟩ = some (.string name) := HK.blk_cell k2 1
  have y2 : w1.cell? ⟨w.heap.size + 1, 2, none⟩ = some (.slice none 0 0) := HK.blk_cell k2 2
  have y3 : w1.cell? ⟨w.heap.size + 1, 3, none⟩ = some (.slice none 0 0) := HK.blk_cell k2 3
  clear k1 k2 hw1
  go_wp2_with (first
    | (go_at_call 80; (refine (H0.out _).mono ?_; rintro e w' ⟨rfl, rfl⟩))
    | (go_at_call 81; (refine (H1.out _).mono ?_; rintro e w' ⟨rfl, rfl⟩)))
  go_ret
  exact ⟨rfl, HW1.out⟩
def SameOk (t : PT) : Prop := ∀ (s1 s2 : SL) (w : World), IsPs w.heap.size w s1 t.subs → IsPs w.heap.size w s2 t.subs → Calls Try.prog 53 #[.agg (t.arr s1), .agg (t.arr s2)] w (RetB w (.bool true))
def SamesOk (ts : List PT) : Prop := ∀ (s1 s2 : SL) (w : World), IsPs w.heap.size w s1 ts → IsPs w.heap.size w s2 ts → Calls Try.prog 70 #[s1.v, s2.v] w (RetB w (.bool true))
set_option maxRecDepth 100000 in
set_option maxHeartbeats 8000000 in
theorem same_of (t : PT) (hp : plainT t) (he : SamesOk t.subs) : SameOk t := by
  intro s1 s2 w hs1 hs2
  obtain ⟨h1, h2, h3, _⟩ := (plainT_eq t).1 hp
  have hf := fun W => same69_nil W t.o.op t.o.name
  have hm := fun W => same71_nil W
  have hse := fun W (q1 : IsPs W.heap.size W s1 t.subs) (q2 : IsPs W.heap.size W s2 t.subs) => he s1 s2 W q1 q2
  obtain ⟨rule, ⟨op, name, args, fsub, label, marks⟩, subs⟩ := t
  simp only [PT.o, PT.subs] at h1 h2 h3 hf hse hs1 hs2
  subst h1 h2 h3
  obtain ⟨sa, sn, sc⟩ := s1
  obtain ⟨ta, tn, tc⟩ := s2
  simp only [PT.arr, PT.rule, PT.o, PT.subs, SL.v, SL.nil] at hse ⊢
  have HF := Lib.hid hf
  have HM := Lib.hid hm
  have HS1 := Lib.hid hs1
  have HS2 := Lib.hid hs2
  have HSE := Lib.hid hse
  clear hf hm he hse hs1 hs2 hp
  go_enter Try.func53, Try.ntmps53
  go_upto_region 1 with (fail)
  obtain ⟨w1, hw1⟩ : ∃ w1, w1 = (w.alloc (.cells #[.string rule, .int .u8 op, .string name, .slice none 0 0, .slice none 0 0, .int .i64 label, .slice sa sn sc, .slice none 0 0] 30)).alloc (.cells #[.string rule, .int .u8 op, .string name, .slice none 0 0, .slice none 0 0, .int .i64 label, .slice ta tn tc, .slice none 0 0] 30) := ⟨_, rfl⟩
  rw [← hw1]
  have hB1 : Below w.heap.size w w1 := by rw [hw1]; exact bl_al (bl_al (Below.refl _ _))
  have k1 : w1.heap[w.heap.size]? = some (.cells #[.string rule, .int .u8 op, .string name, .slice none 0 0, .slice none 0 0, .int .i64 label, .slice sa sn sc, .slice none 0 0] 30 (0, 0)) := by rw [hw1]; exact HK.blk_alloc (HK.blk_new _ _) _
  have k2 : w1.heap[w.heap.size + 1]? = some (.cells #[.string rule, .int .u8 op, .string name, .slice none 0 0, .slice none 0 0, .int .i64 label, .slice ta tn tc, .slice none 0 0] 30 (0, 0)) := by rw [hw1]; exact blk_new1 _ _ _
  have hse1 := fun W (hB : Below w1.heap.size w1 W) => HSE.out W (HS1.out.up (below_then hB1 hB)) (HS2.out.up (below_then hB1 hB))
  have HSE1 := Lib.hid hse1
  have HB1 := Lib.hid hB1
  have x0 : w1.cell? ⟨w.heap.size, 0, none⟩ = some (.string rule) := HK.blk_cell k1 0
  have x1 : w1.cell? ⟨w.heap.size, 1, none⟩ = some (.int .u8 op) := HK.blk_cell k1 1
  have x2 : w1.cell? ⟨w.heap.size, 2, none⟩ = some (.string name) := HK.blk_cell k1 2
  have x3 : w1.cell? ⟨w.heap.size, 3, none⟩ = some (.slice none 0 0) := HK.blk_cell k1 3
  have x4 : w1.cell? ⟨w.heap.size, 4, none⟩ = some (.slice none 0 0) := HK.blk_cell k1 4
  have x5 : w1.cell? ⟨w.heap.size, 5, none⟩ = some (.int .i64 label) := HK.blk_cell k1 5
  have x6 : w1.cell? ⟨w.heap.size, 6, none⟩ = some (.slice sa sn sc) := HK.blk_cell k1 6
  have x7 : w1.cell? ⟨w.heap.size, 7, none⟩ = some (.slice none 0 0) := HK.blk_cell k1 7
  have y0 : w1.cell? ⟨w.heap.size + 1, 0, none⟩ = some (.string rule) := HK.blk_cell k2 0
  have y1 : w1.cell? ⟨w.heap.size + 1, 1, none⟩ = some (.int .u8 op) := HK.blk_cell k2 1
  have y2 : w1.cell? ⟨w.heap.size + 1, 2, none⟩ = some (.string name) := HK.blk_cell k2 2
  have y3 : w1.cell? ⟨w.heap.size + 1, 3, none⟩ = some (.slice none 0 0) := HK.blk_cell k2 3
  have y4 : w1.cell? ⟨w.heap.size + 1, 4, none⟩ = some (.slice none 0 0) := HK.blk_cell k2 4
  have y5 : w1.cell? ⟨w.heap.size + 1, 5, none⟩ = some (.int .i64 label) := HK.blk_cell k2 5
  have y6 : w1.cell? ⟨w.heap.size + 1, 6, none⟩ = some (.slice ta tn tc) := HK.blk_cell k2 6
  have y7 : w1.cell? ⟨w.heap.size + 1, 7, none⟩ = some (.slice none 0 0) := HK.blk_cell k2 7
  have x0' : ∀ o o2, ((w1.alloc o).alloc o2).cell? ⟨w.heap.size, 0, none⟩ = some (.string rule) := fun o o2 => HK.blk_cell (HK.blk_alloc (HK.blk_alloc k1 o) o2) 0
  have x1' : ∀ o o2, ((w1.alloc o).alloc o2).cell? ⟨w.heap.size, 1, none⟩ = some (.int .u8 op) := fun o o2 => HK.blk_cell (HK.blk_alloc (HK.blk_alloc k1 o) o2) 1
  have x2' : ∀ o o2, ((w1.alloc o).alloc o2).cell? ⟨w.heap.size, 2, none⟩ = some (.string name) := fun o o2 => HK.blk_cell (HK.blk_alloc (HK.blk_alloc k1 o) o2) 2
  have x3' : ∀ o o2, ((w1.alloc o).alloc o2).cell? ⟨w.heap.size, 3, none⟩ = some (.slice none 0 0) := fun o o2 => HK.blk_cell (HK.blk_alloc (HK.blk_alloc k1 o) o2) 3
  have x4' : ∀ o o2, ((w1.alloc o).alloc o2).cell? ⟨w.heap.size, 4, none⟩ = some (.slice none 0 0) := fun o o2 => HK.blk_cell (HK.blk_alloc (HK.blk_alloc k1 o) o2) 4
  have x5' : ∀ o o2, ((w1.alloc o).alloc o2).cell? ⟨w.heap.size, 5, none⟩ = some (.int .i64 label) := fun o o2 => HK.blk_cell (HK.blk_alloc (HK.blk_alloc k1 o) o2) 5
  have x6' : ∀ o o2, ((w1.alloc o).alloc o2).cell? ⟨w.heap.size, 6, none⟩ = some (.slice sa sn sc) := fun o o2 => HK.blk_cell (HK.blk_alloc (HK.blk_alloc k1 o) o2) 6
  have x7' : ∀ o o2, ((w1.alloc o).alloc o2).cell? ⟨w.heap.size, 7, none⟩ = some (.slice none 0 0) := fun o o2 => HK.blk_cell (HK.blk_alloc (HK.blk_alloc k1 o) o2) 7
  have y0' : ∀ o o2, ((w1.alloc o).alloc o2).cell? ⟨w.heap.size + 1, 0, none⟩ = some (.string rule) := fun o o2 => HK.blk_cell (HK.blk_alloc (HK.blk_alloc k2 o) o2) 0
  have y1' : ∀ o o2, ((w1.alloc o).alloc o2).cell? ⟨w.heap.size + 1, 1, none⟩ = some (.int .u8 op) := fun o o2 => HK.blk_cell (HK.blk_alloc (HK.blk_alloc k2 o) o2) 1
  have y2' : ∀ o o2, ((w1.alloc o).alloc o2).cell? ⟨w.heap.size + 1, 2, none⟩ = some (.string name) := fun o o2 => HK.blk_cell (HK.blk_alloc (HK.blk_alloc k2 o) o2) 2
  have y3' : ∀ o o2, ((w1.alloc o).alloc o2).cell? ⟨w.heap.size + 1, 3, none⟩ = some (.slice none 0 0) := fun o o2 => HK.blk_cell (HK.blk_alloc (HK.blk_alloc k2 o) o2) 3
  have y4' : ∀ o o2, ((w1.alloc o).alloc o2).cell? ⟨w.heap.size + 1, 4, none⟩ = some (.slice none 0 0) := fun o o2 => HK.blk_cell (HK.blk_alloc (HK.blk_alloc k2 o) o2) 4
  have y5' : ∀ o o2, ((w1.alloc o).alloc o2).cell? ⟨w.heap.size + 1, 5, none⟩ = some (.int .i64 label) := fun o o2 => HK.blk_cell (HK.blk_alloc (HK.blk_alloc k2 o) o2) 5
  have y6' : ∀ o o2, ((w1.alloc o).alloc o2).cell? ⟨w.heap.size + 1, 6, none⟩ = some (.slice ta tn tc) := fun o o2 => HK.blk_cell (HK.blk_alloc (HK.blk_alloc k2 o) o2) 6
  have y7' : ∀ o o2, ((w1.alloc o).alloc o2).cell? ⟨w.heap.size + 1, 7, none⟩ = some (.slice none 0 0) := fun o o2 => HK.blk_cell (HK.blk_alloc (HK.blk_alloc k2 o) o2) 7
  clear hB1 k1 k2 hw1 hse1
  go_wp2_with (first
    | (go_at_call 69; (refine (HF.out _).mono ?_; rintro e w' ⟨rfl, rfl⟩))
    | (go_at_call 70
       refine (HSE1.out _ (bl_al (bl_al (Below.refl _ w1)))).mono ?_
       rintro e w2 ⟨rfl, hB2⟩
       have hb := below_then (a := w1) (c := w2) (bl_al (bl_al (Below.refl _ w1))) hB2
       have z7 := cell_then x7 hb
       have u7 := cell_then y7 hb
       have HBa := Lib.hid hb
       clear hb hB2)
    | (go_at_call 71; (refine (HM.out _).mono ?_; rintro e w' ⟨rfl, rfl⟩)))
  go_ret
  exact ⟨rfl, below_then HB1.out HBa.out⟩
set_option maxRecDepth 100000 in
set_option maxHeartbeats 8000000 in
theorem sames_of (ts : List PT) (hl : ts.length ≤ 10000) (hc : ∀ t ∈ ts, SameOk t) : SamesOk ts := by
  intro s1 s2 w hs1 hs2
  have hn1 := hs1.len
  have hn2 := hs2.len
  obtain ⟨sa, n, sc⟩ := s1
  obtain ⟨ta, m, tc⟩ := s2
  simp only at hn1 hn2
  obtain rfl : m = n := by rw [hn1, hn2]
  simp only [SL.v]
  have HS1 := Lib.hid hs1
  have HS2 := Lib.hid hs2
  have HC := Lib.hid hc
  have HN := Lib.hid hn1
  have hl2 : m ≤ 10000 := by omega
  clear hs1 hs2 hc hn1 hn2 hl
  go_enter Try.func70, Try.ntmps70
  go_wp2_with (fail)
  go_loopw [5] (fun k wr => ∃ j : Nat, j ≤ m ∧ k = .int .i64 j ∧ Below w.heap.size w wr) (fun k _ => m - (intOf k).toNat)
  case atStart => exact ⟨0, by omega, rfl, Below.refl _ _⟩
  case round =>
    obtain ⟨wo, rfl⟩ : ∃ wo : World, wo = wr := ⟨_, rfl⟩
    obtain ⟨j, hj, rfl, hB⟩ := hrel
    by_cases h1 : j < m
    · obtain ⟨q, hq⟩ : ∃ q, ts[j]? = some q := ⟨_, List.getElem?_eq_getElem (by rw [← HN.out]; exact h1)⟩
      have hp1 := HS1.out.up hB
      have hp2 := HS2.out.up hB
      obtain ⟨g1, o1, rfl⟩ := ps_addr hp1 hq
      obtain ⟨g2, o2, rfl⟩ := ps_addr hp2 hq
      obtain ⟨v1, hc1, hs1⟩ := row_at hp1 hq
      obtain ⟨v2, hc2, hs2⟩ := row_at hp2 hq
      have hcq := fun W (hBW : Below wo.heap.size wo W) => HC.out q (List.mem_of_getElem? hq) v1 v2 W (hs1.up hBW) (hs2.up hBW)
      obtain ⟨qr, ⟨qo, qn, ⟨ba, bn, bc⟩, ⟨da, dn, dc⟩, ql, ⟨na, nn, nc⟩⟩, qs⟩ := q
      obtain ⟨ua, un, uc⟩ := v1
      obtain ⟨va, vn, vc⟩ := v2
      simp only [PT.vals, PT.arr, PT.rule, PT.o, PT.subs, SL.v] at hc1 hc2 hcq
      have x0 : wo.cell? ⟨g1, o1 + j * 8, none⟩ = some (.string qr) := hc1 0 _ rfl
      have x1 : wo.cell? ⟨g1, o1 + j * 8 + 1, none⟩ = some (.int .u8 qo) := hc1 1 _ rfl
      have x2 : wo.cell? ⟨g1, o1 + j * 8 + 2, none⟩ = some (.string qn) := hc1 2 _ rfl
      have x3 : wo.cell? ⟨g1, o1 + j * 8 + 3, none⟩ = some (.slice ba bn bc) := hc1 3 _ rfl
      have x4 : wo.cell? ⟨g1, o1 + j * 8 + 4, none⟩ = some (.slice da dn dc) := hc1 4 _ rfl
      have x5 : wo.cell? ⟨g1, o1 + j * 8 + 5, none⟩ = some (.int .i64 ql) := hc1 5 _ rfl
      have x6 : wo.cell? ⟨g1, o1 + j * 8 + 6, none⟩ = some (.slice ua un uc) := hc1 6 _ rfl
      have x7 : wo.cell? ⟨g1, o1 + j * 8 + 7, none⟩ = some (.slice na nn nc) := hc1 7 _ rfl
      have y0 : wo.cell? ⟨g2, o2 + j * 8, none⟩ = some (.string qr) := hc2 0 _ rfl
      have y1 : wo.cell? ⟨g2, o2 + j * 8 + 1, none⟩ = some (.int .u8 qo) := hc2 1 _ rfl
      have y2 : wo.cell? ⟨g2, o2 + j * 8 + 2, none⟩ = some (.string qn) := hc2 2 _ rfl
      have y3 : wo.cell? ⟨g2, o2 + j * 8 + 3, none⟩ = some (.slice ba bn bc) := hc2 3 _ rfl
      have y4 : wo.cell? ⟨g2, o2 + j * 8 + 4, none⟩ = some (.slice da dn dc) := hc2 4 _ rfl
      have y5 : wo.cell? ⟨g2, o2 + j * 8 + 5, none⟩ = some (.int .i64 ql) := hc2 5 _ rfl
      have y6 : wo.cell? ⟨g2, o2 + j * 8 + 6, none⟩ = some (.slice va vn vc) := hc2 6 _ rfl
      have y7 : wo.cell? ⟨g2, o2 + j * 8 + 7, none⟩ = some (.slice na nn nc) := hc2 7 _ rfl
      have b1 : (0 : Int) ≤ (j : Int) := by omega
      have b2 : (j : Int) < (m : Int) := by omega
      have HCQ := Lib.hid hcq
      have HBR := Lib.hid hB
      clear hq hp1 hp2 hc1 hc2 hs1 hs2 hcq hB
      go_upto_region 6 with (fail)
      go_region_held3 (fun w' => w'.cell? ⟨g1, o1 + j * 8, none⟩ = some (.string qr) ∧ w'.cell? ⟨g1, o1 + j * 8 + 1, none⟩ = some (.int .u8 qo) ∧ w'.cell? ⟨g1, o1 + j * 8 + 2, none⟩ = some (.string qn) ∧ w'.cell? ⟨g1, o1 + j * 8 + 3, none⟩ = some (.slice ba bn bc) ∧ w'.cell? ⟨g1, o1 + j * 8 + 4, none⟩ = some (.slice da dn dc) ∧ w'.cell? ⟨g1, o1 + j * 8 + 5, none⟩ = some (.int .i64 ql) ∧ w'.cell? ⟨g1, o1 + j * 8 + 6, none⟩ = some (.slice ua un uc) ∧ w'.cell? ⟨g1, o1 + j * 8 + 7, none⟩ = some (.slice na nn nc) ∧ w'.cell? ⟨g2, o2 + j * 8, none⟩ = some (.string qr) ∧ w'.cell? ⟨g2, o2 + j * 8 + 1, none⟩ = some (.int .u8 qo) ∧ w'.cell? ⟨g2, o2 + j * 8 + 2, none⟩ = some (.string qn) ∧ w'.cell? ⟨g2, o2 + j * 8 + 3, none⟩ = some (.slice ba bn bc) ∧ w'.cell? ⟨g2, o2 + j * 8 + 4, none⟩ = some (.slice da dn dc) ∧ w'.cell? ⟨g2, o2 + j * 8 + 5, none⟩ = some (.int .i64 ql) ∧ w'.cell? ⟨g2, o2 + j * 8 + 6, none⟩ = some (.slice va vn vc) ∧ w'.cell? ⟨g2, o2 + j * 8 + 7, none⟩ = some (.slice na nn nc))
        (refine ⟨cell_then x0 (by repeat (first | (with_reducible exact Below.refl _ _) | (with_reducible exact HBc.out) | (with_reducible exact HBb.out) | (with_reducible exact HBa.out) | (with_reducible apply bl_al) | (with_reducible apply bl_dr))), cell_then x1 (by repeat (first | (with_reducible exact Below.refl _ _) | (with_reducible exact HBc.out) | (with_reducible exact HBb.out) | (with_reducible exact HBa.out) | (with_reducible apply bl_al) | (with_reducible apply bl_dr))), cell_then x2 (by repeat (first | (with_reducible exact Below.refl _ _) | (with_reducible exact HBc.out) | (with_reducible exact HBb.out) | (with_reducible exact HBa.out) | (with_reducible apply bl_al) | (with_reducible apply bl_dr))), cell_then x3 (by repeat (first | (with_reducible exact Below.refl _ _) | (with_reducible exact HBc.out) | (with_reducible exact HBb.out) | (with_reducible exact HBa.out) | (with_reducible apply bl_al) | (with_reducible apply bl_dr))), cell_then x4 (by repeat (first | (with_reducible exact Below.refl _ _) | (with_reducible exact HBc.out) | (with_reducible exact HBb.out) | (with_reducible exact HBa.out) | (with_reducible apply bl_al) | (with_reducible apply bl_dr))), cell_then x5 (by repeat (first | (with_reducible exact Below.refl _ _) | (with_reducible exact HBc.out) | (with_reducible exact HBb.out) | (with_reducible exact HBa.out) | (with_reducible apply bl_al) | (with_reducible apply bl_dr))), cell_then x6 (by repeat (first | (with_reducible exact Below.refl _ _) | (with_reducible exact HBc.out) | (with_reducible exact HBb.out) | (with_reducible exact HBa.out) | (with_reducible apply bl_al) | (with_reducible apply bl_dr))), cell_then x7 (by repeat (first | (with_reducible exact Below.refl _ _) | (with_reducible exact HBc.out) | (with_reducible exact HBb.out) | (with_reducible exact HBa.out) | (with_reducible apply bl_al) | (with_reducible apply bl_dr))), cell_then y0 (by repeat (first | (with_reducible exact Below.refl _ _) | (with_reducible exact HBc.out) | (with_reducible exact HBb.out) | (with_reducible exact HBa.out) | (with_reducible apply bl_al) | (with_reducible apply bl_dr))), cell_then y1 (by repeat (first | (with_reducible exact Below.refl _ _) | (with_reducible exact HBc.out) | (with_reducible exact HBb.out) | (with_reducible exact HBa.out) | (with_reducible apply bl_al) | (with_reducible apply bl_dr))), cell_then y2 (by repeat (first | (with_reducible exact Below.refl _ _) | (with_reducible exact HBc.out) | (with_reducible exact HBb.out) | (with_reducible exact HBa.out) | (with_reducible apply bl_al) | (with_reducible apply bl_dr))), cell_then y3 (by repeat (first | (with_reducible exact Below.refl _ _) | (with_reducible exact HBc.out) | (with_reducible exact HBb.out) | (with_reducible exact HBa.out) | (with_reducible apply bl_al) | (with_reducible apply bl_dr))), cell_then y4 (by repeat (first | (with_reducible exact Below.refl _ _) | (with_reducible exact HBc.out) | (with_reducible exact HBb.out) | (with_reducible exact HBa.out) | (with_reducible apply bl_al) | (with_reducible apply bl_dr))), cell_then y5 (by repeat (first | (with_reducible exact Below.refl _ _) | (with_reducible exact HBc.out) | (with_reducible exact HBb.out) | (with_reducible exact HBa.out) | (with_reducible apply bl_al) | (with_reducible apply bl_dr))), cell_then y6 (by repeat (first | (with_reducible exact Below.refl _ _) | (with_reducible exact HBc.out) | (with_reducible exact HBb.out) | (with_reducible exact HBa.out) | (with_reducible apply bl_al) | (with_reducible apply bl_dr))), cell_then y7 (by repeat (first | (with_reducible exact Below.refl _ _) | (with_reducible exact HBc.out) | (with_reducible exact HBb.out) | (with_reducible exact HBa.out) | (with_reducible apply bl_al) | (with_reducible apply bl_dr)))⟩)
        (first
          | (go_at_call 53
             refine (HCQ.out _ (by repeat (first | (with_reducible exact Below.refl _ _) | (with_reducible exact HBc.out) | (with_reducible exact HBb.out) | (with_reducible exact HBa.out) | (with_reducible apply bl_al) | (with_reducible apply bl_dr)))).mono ?_
             rintro e w' ⟨rfl, hB'⟩
             have hb := below_then (a := wo) (c := w') (by repeat (first | (with_reducible exact Below.refl _ _) | (with_reducible exact HBc.out) | (with_reducible exact HBb.out) | (with_reducible exact HBa.out) | (with_reducible apply bl_al) | (with_reducible apply bl_dr))) hB'
             have HBa := Lib.hid hb
             clear hb hB'))
      all_goals (
        go_wp2_with (fail)
        go_roundw
        case rel => exact ⟨j + 1, by omega, by go_num, below_then HBR.out HBa.out⟩
        case measure => simp [intOf]; omega)
    · obtain rfl : j = m := by omega
      have b1 : ¬ ((j : Int) < (j : Int)) := by omega
      have HBR := Lib.hid hB
      clear hB
      go_wp2_with (fail)
      go_ret
      exact ⟨rfl, HBR.out⟩
theorem same_all (N : Nat) (hN : N ≤ 10000) : ∀ t : PT, plainT t → sizeT t ≤ N → SameOk t := by
  induction N with
  | zero => intro t _ h; have := sizeT_pos t; omega
  | succ N ih =>
    intro t hp hz
    have hz2 := sizeT_eq t
    refine same_of t hp (sames_of _ (by have := sizeF_len t.subs; omega) fun u hu => ?_)
    obtain ⟨i, hi⟩ := List.getElem?_of_mem hu
    have := sizeF_mem hi
    exact ih (by omega) u ((plainF_iff _).1 ((plainT_eq t).1 hp).2.2.2 u hu) (by omega)
set_option maxRecDepth 100000 in
set_option maxHeartbeats 4000000 in
/-- Same at two copies of a plain proof. -/
theorem same_call (w : World) (t : PT) (s1 s2 : SL) (hp : plainT t) (hz : sizeT t ≤ 10000) (h1 : IsPs w.heap.size w s1 t.subs) (h2 : IsPs w.heap.size w s2 t.subs) : Calls Try.prog 35 #[.agg (t.arr s1), .agg (t.arr s2)] w (RetB w (.bool true)) := by
  have hsa := fun W (hB : Below w.heap.size w W) => same_all 10000 (by omega) t hp hz s1 s2 W (h1.up hB) (h2.up hB)
  obtain ⟨rule, ⟨op, name, ⟨aa, an, ac⟩, ⟨fa, fn, fc⟩, label, ⟨ma, mn, mc⟩⟩, subs⟩ := t
  obtain ⟨sa, sn, sc⟩ := s1
  obtain ⟨ta, tn, tc⟩ := s2
  simp only [PT.arr, PT.rule, PT.o, PT.subs, SL.v] at hsa ⊢
  have HSA := Lib.hid hsa
  clear hsa h1 h2 hp hz
  go_enter Try.func35, Try.ntmps35
  go_wp2_with (go_at_call 53; (refine (HSA.out _ (by repeat (first | (with_reducible exact Below.refl _ _) | (with_reducible exact HBc.out) | (with_reducible exact HBb.out) | (with_reducible exact HBa.out) | (with_reducible apply bl_al) | (with_reducible apply bl_dr)))).mono ?_; rintro e w' ⟨rfl, hB'⟩; have hb := below_then (a := w) (c := w') (by repeat (first | (with_reducible exact Below.refl _ _) | (with_reducible exact HBc.out) | (with_reducible exact HBb.out) | (with_reducible exact HBa.out) | (with_reducible apply bl_al) | (with_reducible apply bl_dr))) hB'; have HBa := Lib.hid hb; clear hb hB'))
  go_ret
  exact ⟨rfl, HBa.out⟩
end Go.Proofs.Ytfebcpmbkljaoaa
