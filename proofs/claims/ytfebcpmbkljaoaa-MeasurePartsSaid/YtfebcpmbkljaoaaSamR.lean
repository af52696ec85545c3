/- The kit's Same functions at proofs with equal data. -/
import Derived.Test.YtfebcpmbkljaoaaRichE
import Derived.Test.YtfebcpmbkljaoaaWrB
import Derived.Deep.RegionHeld3
namespace Go.Proofs.Ytfebcpmbkljaoaa
open Go.RowKit Go.HR
set_option linter.unusedVariables false
set_option linter.unusedSimpArgs false
set_option linter.unusedSectionVars false
/-- True, and a world that only drew. -/
def RetTr (w : World) (e : Ending) (w' : World) : Prop := e = .returned (.bool true) ∧ ∃ d, w' = w.drewN d
set_option maxRecDepth 100000 in
set_option maxHeartbeats 4000000 in
/-- SameInts. -/
theorem ints_same {S T : Nat → Prop} (w : World) (s t : SL) (xs : List Int) (hs : IsIq S w s xs) (ht : IsIq T w t xs) (hl : xs.length ≤ 20000) : Calls Try.prog 82 #[s.v, t.v] w (RetTr w) := by
  obtain ⟨a, n, c⟩ := s
  obtain ⟨b, m, e⟩ := t
  obtain ⟨hn, hc, hs⟩ := hs
  obtain ⟨hm, he, ht⟩ := ht
  simp only at hn hm hs ht hc he
  obtain rfl : m = n := by rw [hn, hm]
  have hl2 : m ≤ 20000 := by omega
  simp only [SL.v]
  have HN := Lib.hid hn
  have HS := Lib.hid hs
  have HT := Lib.hid ht
  clear hn hm hs ht hc he hl
  go_enter Try.func82, Try.ntmps82
  go_wp2_with (fail)
  go_loopw [5] (fun i wr => ∃ k d : Nat, k ≤ m ∧ i = .int .i64 k ∧ wr = w.drewN d) (fun i _ => m - (intOf i).toNat)
  case atStart => exact ⟨0, 0, by omega, rfl, rfl⟩
  case round =>
    obtain ⟨k, d, hk1, rfl, rfl⟩ := hrel
    by_cases h1 : k < m
    · obtain ⟨x, hx⟩ : ∃ x, xs[k]? = some x := ⟨_, List.getElem?_eq_getElem (by rw [← HN.out]; exact h1)⟩
      obtain ⟨g, o, rfl, _, hc1⟩ := HS.out.resolve_left (fun e => by rw [e] at hx; simp at hx)
      obtain ⟨g2, o2, rfl, _, hc2⟩ := HT.out.resolve_left (fun e => by rw [e] at hx; simp at hx)
      obtain ⟨w2, hw2⟩ : ∃ w2, w2 = w.drewN d := ⟨_, rfl⟩
      have c1 : w2.cell? ⟨g, o + k, none⟩ = some (.int .i64 x) := by rw [hw2]; exact hc1 k x hx
      have c2 : w2.cell? ⟨g2, o2 + k, none⟩ = some (.int .i64 x) := by rw [hw2]; exact hc2 k x hx
      rw [← hw2]
      have HW2 := Lib.hid hw2
      clear hw2 hc1 hc2 hx
      have b1 : (0 : Int) ≤ (k : Int) := by omega
      have b2 : (k : Int) < (m : Int) := by omega
      go_wp2_with (fail)
      go_quiet (fail)
      go_wp2_with (fail)
      go_roundw
      case rel => exact ⟨k + 1, d + nq, by omega, by go_num, by rw [HW2.out]; simp⟩
      case measure => simp [intOf]; omega
    · obtain rfl : k = m := by omega
      have b2 : ¬ ((k : Int) < (k : Int)) := by omega
      go_wp2_with (fail)
      go_ret
      exact ⟨rfl, d, rfl⟩
theorem isIq_drew {S : Nat → Prop} {w : World} {s : SL} {xs : List Int} (h : IsIq S w s xs) (d : Nat) : IsIq S (w.drewN d) s xs := h
set_option maxRecDepth 100000 in
set_option maxHeartbeats 4000000 in
/-- SameMarks. -/
theorem marks_same {S T : Nat → Prop} (w : World) (s t : SL) (xs : List (List Int)) (hs : IsMq S w s xs) (ht : IsMq T w t xs) (hl : xs.length ≤ 20000) (hu : ∀ u ∈ xs, u.length ≤ 20000) : Calls Try.prog 71 #[s.v, t.v] w (RetTr w) := by
  obtain ⟨a, n, c⟩ := s
  obtain ⟨b, m, e⟩ := t
  obtain ⟨hn, hc, hs⟩ := hs
  obtain ⟨hm, he, ht⟩ := ht
  simp only at hn hm hs ht hc he
  obtain rfl : m = n := by rw [hn, hm]
  have hl2 : m ≤ 20000 := by omega
  simp only [SL.v]
  have HN := Lib.hid hn
  have HS := Lib.hid hs
  have HT := Lib.hid ht
  have HU := Lib.hid hu
  clear hn hm hs ht hc he hl hu
  go_enter Try.func71, Try.ntmps71
  go_wp2_with (fail)
  go_loopw [5] (fun i wr => ∃ k d : Nat, k ≤ m ∧ i = .int .i64 k ∧ wr = w.drewN d) (fun i _ => m - (intOf i).toNat)
  case atStart => exact ⟨0, 0, by omega, rfl, rfl⟩
  case round =>
    obtain ⟨k, d, hk1, rfl, rfl⟩ := hrel
    by_cases h1 : k < m
    · obtain ⟨x, hx⟩ : ∃ x, xs[k]? = some x := ⟨_, List.getElem?_eq_getElem (by rw [← HN.out]; exact h1)⟩
      obtain ⟨g, o, rfl, _, sl, hc1⟩ := HS.out.resolve_left (fun e => by rw [e] at hx; simp at hx)
      obtain ⟨g2, o2, rfl, _, sl2, hc2⟩ := HT.out.resolve_left (fun e => by rw [e] at hx; simp at hx)
      obtain ⟨w2, hw2⟩ : ∃ w2, w2 = w.drewN d := ⟨_, rfl⟩
      obtain ⟨e1, e3⟩ := hc1 k x hx
      obtain ⟨e2, e4⟩ := hc2 k x hx
      have hxu := HU.out x (List.mem_of_getElem? hx)
      have hcall := fun d' => ints_same ((w.drewN d).drewN d') (sl k) (sl2 k) x e3 e4 hxu
      rw [← hw2] at hcall ⊢
      generalize sl k = sk at e1 hcall
      generalize sl2 k = sk2 at e2 hcall
      obtain ⟨qa, qn, qc⟩ := sk
      obtain ⟨ra, rn, rc⟩ := sk2
      simp only [SL.v] at e1 e2 hcall
      have c1 : w2.cell? ⟨g, o + k, none⟩ = some (.slice qa qn qc) := by rw [hw2]; exact e1
      have c2 : w2.cell? ⟨g2, o2 + k, none⟩ = some (.slice ra rn rc) := by rw [hw2]; exact e2
      have HCL := Lib.hid hcall
      have HW2 := Lib.hid hw2
      clear hw2 hc1 hc2 hx e1 e2 e3 e4 hcall hxu
      have b1 : (0 : Int) ≤ (k : Int) := by omega
      have b2 : (k : Int) < (m : Int) := by omega
      go_wp2_with (fail)
      go_quiet ((go_at_call 82; exact Calls.quiet_of ((HCL.out _).mono fun _ _ h => by obtain ⟨h1, d', h2⟩ := h; exact ⟨h1, d', by rw [h2, World.drewN_drewN]⟩)))
      go_wp2_with (fail)
      go_roundw
      case rel => exact ⟨k + 1, d + nq, by omega, by go_num, by rw [HW2.out]; simp⟩
      case measure => simp [intOf]; omega
    · obtain rfl : k = m := by omega
      have b2 : ¬ ((k : Int) < (k : Int)) := by omega
      go_wp2_with (fail)
      go_ret
      exact ⟨rfl, d, rfl⟩
end Go.Proofs.Ytfebcpmbkljaoaa
namespace Go.Proofs.Ytfebcpmbkljaoaa
open Go.RowKit Go.HR
set_option linter.unusedVariables false
set_option linter.unusedSimpArgs false
set_option linter.unusedSectionVars false
set_option maxRecDepth 100000 in
set_option maxHeartbeats 2000000 in
theorem same80_nil (w : World) : Calls Try.prog 80 #[.slice none 0 0, .slice none 0 0] w fun e w' => e = .returned (.bool true) ∧ w' = w := by
  go_enter Try.func80, Try.ntmps80
  go_wp2_with (fail)
  go_loopw [5] (fun k wr => k = .int .i64 0 ∧ wr = w) (fun _ _ => 0)
  case atStart => exact ⟨rfl, rfl⟩
  case round =>
    obtain ⟨rfl, rfl⟩ := hrel
    go_wp2_with (fail)
    go_ret
    exact ⟨rfl, rfl⟩
set_option maxRecDepth 100000 in
set_option maxHeartbeats 2000000 in
theorem same81_nil (w : World) : Calls Try.prog 81 #[.slice none 0 0, .slice none 0 0] w fun e w' => e = .returned (.bool true) ∧ w' = w := by
  go_enter Try.func81, Try.ntmps81
  go_wp2_with (fail)
  go_loopw [5] (fun k wr => k = .int .i64 0 ∧ wr = w) (fun _ _ => 0)
  case atStart => exact ⟨rfl, rfl⟩
  case round =>
    obtain ⟨rfl, rfl⟩ := hrel
    go_wp2_with (fail)
    go_ret
    exact ⟨rfl, rfl⟩
set_option maxRecDepth 100000 in
set_option maxHeartbeats 2000000 in
theorem same71_nil (w : World) : Calls Try.prog 71 #[.slice none 0 0, .slice none 0 0] w fun e w' => e = .returned (.bool true) ∧ w' = w := by
  go_enter Try.func71, Try.ntmps71
  go_wp2_with (fail)
  go_loopw [5] (fun k wr => k = .int .i64 0 ∧ wr = w) (fun _ _ => 0)
  case atStart => exact ⟨rfl, rfl⟩
  case round =>
    obtain ⟨rfl, rfl⟩ := hrel
    go_wp2_with (fail)
    go_ret
    exact ⟨rfl, rfl⟩
set_option maxRecDepth 100000 in
set_option maxHeartbeats 4000000 in
theorem same69_nil (w : World) (op : Int) (name : ByteArray) : Calls Try.prog 69 #[.agg #[.int .u8 op, .string name, .slice none 0 0, .slice none 0 0], .agg #[.int .u8 op, .string name, .slice none 0 0, .slice none 0 0]] w fun e w' => e = .returned (.bool true) ∧ w' = (w.alloc (.cells #[.int .u8 op, .string name, .slice none 0 0, .slice none 0 0] 26)).alloc (.cells #[.int .u8 op, .string name, .slice none 0 0, .slice none 0 0] 26) := by
  have h0 := fun W => same80_nil W
  have h1 := fun W => same81_nil W
  have H0 := Lib.hid h0
  have H1 := Lib.hid h1
  clear h0 h1
  go_enter Try.func69, Try.ntmps69
  go_upto_region 1 with (fail)
  obtain ⟨w1, hw1⟩ : ∃ w1, w1 = (w.alloc (.cells #[.int .u8 op, .string name, .slice none 0 0, .slice none 0 0] 26)).alloc (.cells #[.int .u8 op, .string name, .slice none 0 0, .slice none 0 0] 26) := ⟨_, rfl⟩
  rw [← hw1]
  have k1 : w1.heap[w.heap.size]? = some (.cells #[.int .u8 op, .string name, .slice none 0 0, .slice none 0 0] 26 (0, 0)) := by rw [hw1]; exact HK.blk_alloc (HK.blk_new _ _) _
  have k2 : w1.heap[w.heap.size + 1]? = some (.cells #[.int .u8 op, .string name, .slice none 0 0, .slice none 0 0] 26 (0, 0)) := by rw [hw1]; exact blk_new1 _ _ _
  have HW1 := Lib.hid hw1
  have x0 : w1.cell? ⟨w.heap.size, 0, none⟩ = some (.int .u8 op) := HK.blk_cell k1 0
  have x1 : w1.cell? ⟨w.heap.size, 1, none⟩ = some (.string name) := HK.blk_cell k1 1
  have x2 : w1.cell? ⟨w.heap.size, 2, none⟩ = some (.slice none 0 0) := HK.blk_cell k1 2
  have x3 : w1.cell? ⟨w.heap.size, 3, none⟩ = some (.slice none 0 0) := HK.blk_cell k1 3
  have y0 : w1.cell? ⟨w.heap.size + 1, 0, none⟩ = some (.int .u8 op) := HK.blk_cell k2 0
  have y1 : w1.cell? ⟨w.heap.size + 1, 1, none⟩ = some (.string name) := HK.blk_cell k2 1
  have y2 : w1.cell? ⟨w.heap.size + 1, 2, none⟩ = some (.slice none 0 0) := HK.blk_cell k2 2
  have y3 : w1.cell? ⟨w.heap.size + 1, 3, none⟩ = some (.slice none 0 0) := HK.blk_cell k2 3
  clear k1 k2 hw1
  go_wp2_with (first
    | (go_at_call 80; (refine (H0.out _).mono ?_; rintro e w' ⟨rfl, rfl⟩))
    | (go_at_call 81; (refine (H1.out _).mono ?_; rintro e w' ⟨rfl, rfl⟩)))
  go_ret
  exact ⟨rfl, HW1.out⟩
def SameOk (t : PT) : Prop := ∀ (s1 s2 : SL) (w : World), IsPs w.heap.size w s1 t.subs → IsPs w.heap.size w s2 t.subs → Calls Try.prog 53 #[.agg (t.arr s1), .agg (t.arr s2)] w (RetB w (.bool true))
def SamesOk (ts : List PT) : Prop := ∀ (s1 s2 : SL) (w : World), IsPs w.heap.size w s1 ts → IsPs w.heap.size w s2 ts → Calls Try.prog 70 #[s1.v, s2.v] w (RetB w (.bool true))
set_option maxRecDepth 100000 in
set_option maxHeartbeats 8000000 in
theorem same_of (t : PT) (hp : plainT t) (he : SamesOk t.subs) : SameOk t := by
  intro s1 s2 w hs1 hs2
  obtain ⟨h1, h2, h3, _⟩ := (plainT_eq t).1 hp
  have hf := fun W => same69_nil W t.o.op t.o.name
  have hm := fun W => same71_nil W
  have hse := fun W (q1 : IsPs W.heap.size W s1 t.subs) (q2 : IsPs W.heap.size W s2 t.subs) => he s1 s2 W q1 q2
  obtain ⟨rule, ⟨op, name, args, fsub, label, marks⟩, subs⟩ := t
  simp only [PT.o, PT.subs] at h1 h2 h3 hf hse hs1 hs2
  subst h1 h2 h3
  obtain ⟨sa, sn, sc⟩ := s1
  obtain ⟨ta, tn, tc⟩ := s2
  simp only [PT.arr, PT.rule, PT.o, PT.subs, SL.v, SL.nil] at hse ⊢
  have HF := Lib.hid hf
  have HM := Lib.hid hm
  have HS1 := Lib.hid hs1
  have HS2 := Lib.hid hs2
  have HSE := Lib.hid hse
  clear hf hm he hse hs1 hs2 hp
  go_enter Try.func53, Try.ntmps53
  go_upto_region 1 with (fail)
  obtain ⟨w1, hw1⟩ : ∃ w1, w1 = (w.alloc (.cells #[.string rule, .int .u8 op, .string name, .slice none 0 0, .slice none 0 0, .int .i64 label, .slice sa sn sc, .slice none 0 0] 30)).alloc (.cells #[.string rule, .int .u8 op, .string name, .slice none 0 0, .slice none 0 0, .int .i64 label, .slice ta tn tc, .slice none 0 0] 30) := ⟨_, rfl⟩
  rw [← hw1]
  have hB1 : Below w.heap.size w w1 := by rw [hw1]; exact bl_al (bl_al (Below.refl _ _))
  have k1 : w1.heap[w.heap.size]? = some (.cells #[.string rule, .int .u8 op, .string name, .slice none 0 0, .slice none 0 0, .int .i64 label, .slice sa sn sc, .slice none 0 0] 30 (0, 0)) := by rw [hw1]; exact HK.blk_alloc (HK.blk_new _ _) _
  have k2 : w1.heap[w.heap.size + 1]? = some (.cells #[.string rule, .int .u8 op, .string name, .slice none 0 0, .slice none 0 0, .int .i64 label, .slice ta tn tc, .slice none 0 0] 30 (0, 0)) := by rw [hw1]; exact blk_new1 _ _ _
  have hse1 := fun W (hB : Below w1.heap.size w1 W) => HSE.out W (HS1.out.up (below_then hB1 hB)) (HS2.out.up (below_then hB1 hB))
  have HSE1 := Lib.hid hse1
  have HB1 := Lib.hid hB1
  have x0 : w1.cell? ⟨w.heap.size, 0, none⟩ = some (.string rule) := HK.blk_cell k1 0
  have x1 : w1.cell? ⟨w.heap.size, 1, none⟩ = some (.int .u8 op) := HK.blk_cell k1 1
  have x2 : w1.cell? ⟨w.heap.size, 2, none⟩ = some (.string name) := HK.blk_cell k1 2
  have x3 : w1.cell? ⟨w.heap.size, 3, none⟩ = some (.slice none 0 0) := HK.blk_cell k1 3
  have x4 : w1.cell? ⟨w.heap.size, 4, none⟩ = some (.slice none 0 0) := HK.blk_cell k1 4
  have x5 : w1.cell? ⟨w.heap.size, 5, none⟩ = some (.int .i64 label) := HK.blk_cell k1 5
  have x6 : w1.cell? ⟨w.heap.size, 6, none⟩ = some (.slice sa sn sc) := HK.blk_cell k1 6
  have x7 : w1.cell? ⟨w.heap.size, 7, none⟩ = some (.slice none 0 0) := HK.blk_cell k1 7
  have y0 : w1.cell? ⟨w.heap.size + 1, 0, none⟩ = some (.string rule) := HK.blk_cell k2 0
  have y1 : w1.cell? ⟨w.heap.size + 1, 1, none⟩ = some (.int .u8 op) := HK.blk_cell k2 1
  have y2 : w1.cell? ⟨w.heap.size + 1, 2, none⟩ = some (.string name) := HK.blk_cell k2 2
  have y3 : w1.cell? ⟨w.heap.size + 1, 3, none⟩ = some (.slice none 0 0) := HK.blk_cell k2 3
  have y4 : w1.cell? ⟨w.heap.size + 1, 4, none⟩ = some (.slice none 0 0) := HK.blk_cell k2 4
  have y5 : w1.cell? ⟨w.heap.size + 1, 5, none⟩ = some (.int .i64 label) := HK.blk_cell k2 5
  have y6 : w1.cell? ⟨w.heap.size + 1, 6, none⟩ = some (.slice ta tn tc) := HK.blk_cell k2 6
  have y7 : w1.cell? ⟨w.heap.size + 1, 7, none⟩ = some (.slice none 0 0) := HK.blk_cell k2 7
  have x0' : ∀ o o2, ((w1.alloc o).alloc o2).cell? ⟨w.heap.size, 0, none⟩ = some (.string rule) := fun o o2 => HK.blk_cell (HK.blk_alloc (HK.blk_alloc k1 o) o2) 0
  have x1' : ∀ o o2, ((w1.alloc o).alloc o2).cell? ⟨w.heap.size, 1, none⟩ = some (.int .u8 op) := fun o o2 => HK.blk_cell (HK.blk_alloc (HK.blk_alloc k1 o) o2) 1
  have x2' : ∀ o o2, ((w1.alloc o).alloc o2).cell? ⟨w.heap.size, 2, none⟩ = some (.string name) := fun o o2 => HK.blk_cell (HK.blk_alloc (HK.blk_alloc k1 o) o2) 2
  have x3' : ∀ o o2, ((w1.alloc o).alloc o2).cell? ⟨w.heap.size, 3, none⟩ = some (.slice none 0 0) := fun o o2 => HK.blk_cell (HK.blk_alloc (HK.blk_alloc k1 o) o2) 3
  have x4' : ∀ o o2, ((w1.alloc o).alloc o2).cell? ⟨w.heap.size, 4, none⟩ = some (.slice none 0 0) := fun o o2 => HK.blk_cell (HK.blk_alloc (HK.blk_alloc k1 o) o2) 4
  have x5' : ∀ o o2, ((w1.alloc o).alloc o2).cell? ⟨w.heap.size, 5, none⟩ = some (.int .i64 label) := fun o o2 => HK.blk_cell (HK.blk_alloc (HK.blk_alloc k1 o) o2) 5
  have x6' : ∀ o o2, ((w1.alloc o).alloc o2).cell? ⟨w.heap.size, 6, none⟩ = some (.slice sa sn sc) := fun o o2 => HK.blk_cell (HK.blk_alloc (HK.blk_alloc k1 o) o2) 6
  have x7' : ∀ o o2, ((w1.alloc o).alloc o2).cell? ⟨w.heap.size, 7, none⟩ = some (.slice none 0 0) := fun o o2 => HK.blk_cell (HK.blk_alloc (HK.blk_alloc k1 o) o2) 7
  have y0' : ∀ o o2, ((w1.alloc o).alloc o2).cell? ⟨w.heap.size + 1, 0, none⟩ = some (.string rule) := fun o o2 => HK.blk_cell (HK.blk_alloc (HK.blk_alloc k2 o) o2) 0
  have y1' : ∀ o o2, ((w1.alloc o).alloc o2).cell? ⟨w.heap.size + 1, 1, none⟩ = some (.int .u8 op) := fun o o2 => HK.blk_cell (HK.blk_alloc (HK.blk_alloc k2 o) o2) 1
  have y2' : ∀ o o2, ((w1.alloc o).alloc o2).cell? ⟨w.heap.size + 1, 2, none⟩ = some (.string name) := fun o o2 => HK.blk_cell (HK.blk_alloc (HK.blk_alloc k2 o) o2) 2
  have y3' : ∀ o o2, ((w1.alloc o).alloc o2).cell? ⟨w.heap.size + 1, 3, none⟩ = some (.slice none 0 0) := fun o o2 => HK.blk_cell (HK.blk_alloc (HK.blk_alloc k2 o) o2) 3
  have y4' : ∀ o o2, ((w1.alloc o).alloc o2).cell? ⟨w.heap.size + 1, 4, none⟩ = some (.slice none 0 0) := fun o o2 => HK.blk_cell (HK.blk_alloc (HK.blk_alloc k2 o) o2) 4
  have y5' : ∀ o o2, ((w1.alloc o).alloc o2).cell? ⟨w.heap.size + 1, 5, none⟩ = some (.int .i64 label) := fun o o2 => HK.blk_cell (HK.blk_alloc (HK.blk_alloc k2 o) o2) 5
  have y6' : ∀ o o2, ((w1.alloc o).alloc o2).cell? ⟨w.heap.size + 1, 6, none⟩ = some (.slice ta tn tc) := fun o o2 => HK.blk_cell (HK.blk_alloc (HK.blk_alloc k2 o) o2) 6
  have y7' : ∀ o o2, ((w1.alloc o).alloc o2).cell? ⟨w.heap.size + 1, 7, none⟩ = some (.slice none 0 0) := fun o o2 => HK.blk_cell (HK.blk_alloc (HK.blk_alloc k2 o) o2) 7
  clear hB1 k1 k2 hw1 hse1
  go_wp2_with (first
    | (go_at_call 69; (refine (HF.out _).mono ?_; rintro e w' ⟨rfl, rfl⟩))
    | (go_at_call 70
       refine (HSE1.out _ (bl_al (bl_al (Below.refl _ w1)))).mono ?_
       rintro e w2 ⟨rfl, hB2⟩
       have hb := below_then (a := w1) (c := w2) (bl_al (bl_al (Below.refl _ w1))) hB2
       have z7 := cell_then x7 hb
       have u7 := cell_then y7 hb
       have HBa := Lib.hid hb
       clear hb hB2)
    | (go_at_call 71; (refine (HM.out _).mono ?_; rintro e w' ⟨rfl, rfl⟩)))
  go_ret
  exact ⟨rfl, below_then HB1.out HBa.out⟩
set_option maxRecDepth 100000 in
set_option maxHeartbeats 8000000 in
theorem sames_of (ts : List PT) (hl : ts.length ≤ 10000) (hc : ∀ t ∈ ts, SameOk t) : SamesOk ts := by
  intro s1 s2 w hs1 hs2
  have hn1 := hs1.len
  have hn2 := hs2.len
  obtain ⟨sa, n, sc⟩ := s1
  obtain ⟨ta, m, tc⟩ := s2
  simp only at hn1 hn2
  obtain rfl : m = n := by rw [hn1, hn2]
  simp only [SL.v]
  have HS1 := Lib.hid hs1
  have HS2 := Lib.hid hs2
  have HC := Lib.hid hc
  have HN := Lib.hid hn1
  have hl2 : m ≤ 10000 := by omega
  clear hs1 hs2 hc hn1 hn2 hl
  go_enter Try.func70, Try.ntmps70
  go_wp2_with (fail)
  go_loopw [5] (fun k wr => ∃ j : Nat, j ≤ m ∧ k = .int .i64 j ∧ Below w.heap.size w wr) (fun k _ => m - (intOf k).toNat)
  case atStart => exact ⟨0, by omega, rfl, Below.refl _ _⟩
  case round =>
    obtain ⟨wo, rfl⟩ : ∃ wo : World, wo = wr := ⟨_, rfl⟩
    obtain ⟨j, hj, rfl, hB⟩ := hrel
    by_cases h1 : j < m
    · obtain ⟨q, hq⟩ : ∃ q, ts[j]? = some q := ⟨_, List.getElem?_eq_getElem (by rw [← HN.out]; exact h1)⟩
      have hp1 := HS1.out.up hB
      have hp2 := HS2.out.up hB
      obtain ⟨g1, o1, rfl⟩ := ps_addr hp1 hq
      obtain ⟨g2, o2, rfl⟩ := ps_addr hp2 hq
      obtain ⟨v1, hc1, hs1⟩ := row_at hp1 hq
      obtain ⟨v2, hc2, hs2⟩ := row_at hp2 hq
      have hcq := fun W (hBW : Below wo.heap.size wo W) => HC.out q (List.mem_of_getElem? hq) v1 v2 W (hs1.up hBW) (hs2.up hBW)
      obtain ⟨qr, ⟨qo, qn, ⟨ba, bn, bc⟩, ⟨da, dn, dc⟩, ql, ⟨na, nn, nc⟩⟩, qs⟩ := q
      obtain ⟨ua, un, uc⟩ := v1
      obtain ⟨va, vn, vc⟩ := v2
      simp only [PT.vals, PT.arr, PT.rule, PT.o, PT.subs, SL.v] at hc1 hc2 hcq
      have x0 : wo.cell? ⟨g1, o1 + j * 8, none⟩ = some (.string qr) := hc1 0 _ rfl
      have x1 : wo.cell? ⟨g1, o1 + j * 8 + 1, none⟩ = some (.int .u8 qo) := hc1 1 _ rfl
      have x2 : wo.cell? ⟨g1, o1 + j * 8 + 2, none⟩ = some (.string qn) := hc1 2 _ rfl
      have x3 : wo.cell? ⟨g1, o1 + j * 8 + 3, none⟩ = some (.slice ba bn bc) := hc1 3 _ rfl
      have x4 : wo.cell? ⟨g1, o1 + j * 8 + 4, none⟩ = some (.slice da dn dc) := hc1 4 _ rfl
      have x5 : wo.cell? ⟨g1, o1 + j * 8 + 5, none⟩ = some (.int .i64 ql) := hc1 5 _ rfl
      have x6 : wo.cell? ⟨g1, o1 + j * 8 + 6, none⟩ = some (.slice ua un uc) := hc1 6 _ rfl
      have x7 : wo.cell? ⟨g1, o1 + j * 8 + 7, none⟩ = some (.slice na nn nc) := hc1 7 _ rfl
      have y0 : wo.cell? ⟨g2, o2 + j * 8, none⟩ = some (.string qr) := hc2 0 _ rfl
      have y1 : wo.cell? ⟨g2, o2 + j * 8 + 1, none⟩ = some (.int .u8 qo) := hc2 1 _ rfl
      have y2 : wo.cell? ⟨g2, o2 + j * 8 + 2, none⟩ = some (.string qn) := hc2 2 _ rfl
      have y3 : wo.cell? ⟨g2, o2 + j * 8 + 3, none⟩ = some (.slice ba bn bc) := hc2 3 _ rfl
      have y4 : wo.cell? ⟨g2, o2 + j * 8 + 4, none⟩ = some (.slice da dn dc) := hc2 4 _ rfl
      have y5 : wo.cell? ⟨g2, o2 + j * 8 + 5, none⟩ = some (.int .i64 ql) := hc2 5 _ rfl
      have y6 : wo.cell? ⟨g2, o2 + j * 8 + 6, none⟩ = some (.slice va vn vc) := hc2 6 _ rfl
      have y7 : wo.cell? ⟨g2, o2 + j * 8 + 7, none⟩ = some (.slice na nn nc) := hc2 7 _ rfl
      have b1 : (0 : Int) ≤ (j : Int) := by omega
      have b2 : (j : Int) < (m : Int) := by omega
      have HCQ := Lib.hid hcq
      have HBR := Lib.hid hB
      clear hq hp1 hp2 hc1 hc2 hs1 hs2 hcq hB
      go_upto_region 6 with (fail)
      go_region_held3 (fun w' => w'.cell? ⟨g1, o1 + j * 8, none⟩ = some (.string qr) ∧ w'.cell? ⟨g1, o1 + j * 8 + 1, none⟩ = some (.int .u8 qo) ∧ w'.cell? ⟨g1, o1 + j * 8 + 2, none⟩ = some (.string qn) ∧ w'.cell? ⟨g1, o1 + j * 8 + 3, none⟩ = some (.slice ba bn bc) ∧ w'.cell? ⟨g1, o1 + j * 8 + 4, none⟩ = some (.slice da dn dc) ∧ w'.cell? ⟨g1, o1 + j * 8 + 5, none⟩ = some (.int .i64 ql) ∧ w'.cell? ⟨g1, o1 + j * 8 + 6, none⟩ = some (.slice ua un uc) ∧ w'.cell? ⟨g1, o1 + j * 8 + 7, none⟩ = some (.slice na nn nc) ∧ w'.cell? ⟨g2, o2 + j * 8, none⟩ = some (.string qr) ∧ w'.cell? ⟨g2, o2 + j * 8 + 1, none⟩ = some (.int .u8 qo) ∧ w'.cell? ⟨g2, o2 + j * 8 + 2, none⟩ = some (.string qn) ∧ w'.cell? ⟨g2, o2 + j * 8 + 3, none⟩ = some (.slice ba bn bc) ∧ w'.cell? ⟨g2, o2 + j * 8 + 4, none⟩ = some (.slice da dn dc) ∧ w'.cell? ⟨g2, o2 + j * 8 + 5, none⟩ = some (.int .i64 ql) ∧ w'.cell? ⟨g2, o2 + j * 8 + 6, none⟩ = some (.slice va vn vc) ∧ w'.cell? ⟨g2, o2 + j * 8 + 7, none⟩ = some (.slice na nn nc))
        (refine ⟨cell_then x0 (by repeat (first | (with_reducible exact Below.refl _ _) | (with_reducible exact HBc.out) | (with_reducible exact HBb.out) | (with_reducible exact HBa.out) | (with_reducible apply bl_al) | (with_reducible apply bl_dr))), cell_then x1 (by repeat (first | (with_reducible exact Below.refl _ _) | (with_reducible exact HBc.out) | (with_reducible exact HBb.out) | (with_reducible exact HBa.out) | (with_reducible apply bl_al) | (with_reducible apply bl_dr))), cell_then x2 (by repeat (first | (with_reducible exact Below.refl _ _) | (with_reducible exact HBc.out) | (with_reducible exact HBb.out) | (with_reducible exact HBa.out) | (with_reducible apply bl_al) | (with_reducible apply bl_dr))), cell_then x3 (by repeat (first | (with_reducible exact Below.refl _ _) | (with_reducible exact HBc.out) | (with_reducible exact HBb.out) | (with_reducible exact HBa.out) | (with_reducible apply bl_al) | (with_reducible apply bl_dr))), cell_then x4 (by repeat (first | (with_reducible exact Below.refl _ _) | (with_reducible exact HBc.out) | (with_reducible exact HBb.out) | (with_reducible exact HBa.out) | (with_reducible apply bl_al) | (with_reducible apply bl_dr))), cell_then x5 (by repeat (first | (with_reducible exact Below.refl _ _) | (with_reducible exact HBc.out) | (with_reducible exact HBb.out) | (with_reducible exact HBa.out) | (with_reducible apply bl_al) | (with_reducible apply bl_dr))), cell_then x6 (by repeat (first | (with_reducible exact Below.refl _ _) | (with_reducible exact HBc.out) | (with_reducible exact HBb.out) | (with_reducible exact HBa.out) | (with_reducible apply bl_al) | (with_reducible apply bl_dr))), cell_then x7 (by repeat (first | (with_reducible exact Below.refl _ _) | (with_reducible exact HBc.out) | (with_reducible exact HBb.out) | (with_reducible exact HBa.out) | (with_reducible apply bl_al) | (with_reducible apply bl_dr))), cell_then y0 (by repeat (first | (with_reducible exact Below.refl _ _) | (with_reducible exact HBc.out) | (with_reducible exact HBb.out) | (with_reducible exact HBa.out) | (with_reducible apply bl_al) | (with_reducible apply bl_dr))), cell_then y1 (by repeat (first | (with_reducible exact Below.refl _ _) | (with_reducible exact HBc.out) | (with_reducible exact HBb.out) | (with_reducible exact HBa.out) | (with_reducible apply bl_al) | (with_reducible apply bl_dr))), cell_then y2 (by repeat (first | (with_reducible exact Below.refl _ _) | (with_reducible exact HBc.out) | (with_reducible exact HBb.out) | (with_reducible exact HBa.out) | (with_reducible apply bl_al) | (with_reducible apply bl_dr))), cell_then y3 (by repeat (first | (with_reducible exact Below.refl _ _) | (with_reducible exact HBc.out) | (with_reducible exact HBb.out) | (with_reducible exact HBa.out) | (with_reducible apply bl_al) | (with_reducible apply bl_dr))), cell_then y4 (by repeat (first | (with_reducible exact Below.refl _ _) | (with_reducible exact HBc.out) | (with_reducible exact HBb.out) | (with_reducible exact HBa.out) | (with_reducible apply bl_al) | (with_reducible apply bl_dr))), cell_then y5 (by repeat (first | (with_reducible exact Below.refl _ _) | (with_reducible exact HBc.out) | (with_reducible exact HBb.out) | (with_reducible exact HBa.out) | (with_reducible apply bl_al) | (with_reducible apply bl_dr))), cell_then y6 (by repeat (first | (with_reducible exact Below.refl _ _) | (with_reducible exact HBc.out) | (with_reducible exact HBb.out) | (with_reducible exact HBa.out) | (with_reducible apply bl_al) | (with_reducible apply bl_dr))), cell_then y7 (by repeat (first | (with_reducible exact Below.refl _ _) | (with_reducible exact HBc.out) | (with_reducible exact HBb.out) | (with_reducible exact HBa.out) | (with_reducible apply bl_al) | (with_reducible apply bl_dr)))⟩)
        (first
          | (go_at_call 53
             refine (HCQ.out _ (by repeat (first | (with_reducible exact Below.refl _ _) | (with_reducible exact HBc.out) | (with_reducible exact HBb.out) | (with_reducible exact HBa.out) | (with_reducible apply bl_al) | (with_reducible apply bl_dr)))).mono ?_
             rintro e w' ⟨rfl, hB'⟩
             have hb := below_then (a := wo) (c := w') (by repeat (first | (with_reducible exact Below.refl _ _) | (with_reducible exact HBc.out) | (with_reducible exact HBb.out) | (with_reducible exact HBa.out) | (with_reducible apply bl_al) | (with_reducible apply bl_dr))) hB'
             have HBa := Lib.hid hb
             clear hb hB'))
      all_goals (
        go_wp2_with (fail)
        go_roundw
        case rel => exact ⟨j + 1, by omega, by go_num, below_then HBR.out HBa.out⟩
        case measure => simp [intOf]; omega)
    · obtain rfl : j = m := by omega
      have b1 : ¬ ((j : Int) < (j : Int)) := by omega
      have HBR := Lib.hid hB
      clear hB
      go_wp2_with (fail)
      go_ret
      exact ⟨rfl, HBR.out⟩
theorem same_all (N : Nat) (hN : N ≤ 10000) : ∀ t : PT, plainT t → sizeT t ≤ N → SameOk t := by
  induction N with
  | zero => intro t _ h; have := sizeT_pos t; omega
  | succ N ih =>
    intro t hp hz
    have hz2 := sizeT_eq t
    refine same_of t hp (sames_of _ (by have := sizeF_len t.subs; omega) fun u hu => ?_)
    obtain ⟨i, hi⟩ := List.getElem?_of_mem hu
    have := sizeF_mem hi
    exact ih (by omega) u ((plainF_iff _).1 ((plainT_eq t).1 hp).2.2.2 u hu) (by omega)
set_option maxRecDepth 100000 in
set_option maxHeartbeats 4000000 in
/-- Same at two copies of a plain proof. -/
theorem same_call (w : World) (t : PT) (s1 s2 : SL) (hp : plainT t) (hz : sizeT t ≤ 10000) (h1 : IsPs w.heap.size w s1 t.subs) (h2 : IsPs w.heap.size w s2 t.subs) : Calls Try.prog 35 #[.agg (t.arr s1), .agg (t.arr s2)] w (RetB w (.bool true)) := by
  have hsa := fun W (hB : Below w.heap.size w W) => same_all 10000 (by omega) t hp hz s1 s2 W (h1.up hB) (h2.up hB)
  obtain ⟨rule, ⟨op, name, ⟨aa, an, ac⟩, ⟨fa, fn, fc⟩, label, ⟨ma, mn, mc⟩⟩, subs⟩ := t
  obtain ⟨sa, sn, sc⟩ := s1
  obtain ⟨ta, tn, tc⟩ := s2
  simp only [PT.arr, PT.rule, PT.o, PT.subs, SL.v] at hsa ⊢
  have HSA := Lib.hid hsa
  clear hsa h1 h2 hp hz
  go_enter Try.func35, Try.ntmps35
  go_wp2_with (go_at_call 53; (refine (HSA.out _ (by repeat (first | (with_reducible exact Below.refl _ _) | (with_reducible exact HBc.out) | (with_reducible exact HBb.out) | (with_reducible exact HBa.out) | (with_reducible apply bl_al) | (with_reducible apply bl_dr)))).mono ?_; rintro e w' ⟨rfl, hB'⟩; have hb := below_then (a := w) (c := w') (by repeat (first | (with_reducible exact Below.refl _ _) | (with_reducible exact HBc.out) | (with_reducible exact HBb.out) | (with_reducible exact HBa.out) | (with_reducible apply bl_al) | (with_reducible apply bl_dr))) hB'; have HBa := Lib.hid hb; clear hb hB'))
  go_ret
  exact ⟨rfl, HBa.out⟩
end Go.Proofs.Ytfebcpmbkljaoaa
namespace Go.Proofs.Ytfebcpmbkljaoaa
open Go.RowKit Go.HR
set_option linter.unusedVariables false
set_option linter.unusedSimpArgs false
set_option linter.unusedSectionVars false
set_option maxRecDepth 100000 in
set_option maxHeartbeats 2000000 in
theorem same80_none (w : World) (a b : Option Addr) (c d : Nat) : Calls Try.prog 80 #[.slice a 0 c, .slice b 0 d] w fun e w' => e = .returned (.bool true) ∧ w' = w := by
  go_enter Try.func80, Try.ntmps80
  go_wp2_with (fail)
  go_loopw [5] (fun k wr => k = .int .i64 0 ∧ wr = w) (fun _ _ => 0)
  case atStart => exact ⟨rfl, rfl⟩
  case round =>
    obtain ⟨rfl, rfl⟩ := hrel
    go_wp2_with (fail)
    go_ret
    exact ⟨rfl, rfl⟩
set_option maxRecDepth 100000 in
set_option maxHeartbeats 4000000 in
/-- SameTerm at terms without arguments. -/
theorem term_same (w : World) (b : Bool) (nm : ByteArray) (a a' : Option Addr) (c c' : Nat) : Calls Try.prog 84 #[.agg #[.bool b, .string nm, .slice a 0 c], .agg #[.bool b, .string nm, .slice a' 0 c']] w (RetB w (.bool true)) := by
  have h0 := fun W => same80_none W a a' c c'
  have H0 := Lib.hid h0
  clear h0
  go_enter Try.func84, Try.ntmps84
  go_upto_region 1 with (fail)
  obtain ⟨w1, hw1⟩ : ∃ w1, w1 = (w.alloc (.cells #[.bool b, .string nm, .slice a 0 c] 114)).alloc (.cells #[.bool b, .string nm, .slice a' 0 c'] 114) := ⟨_, rfl⟩
  rw [← hw1]
  have hB1 : Below w.heap.size w w1 := by rw [hw1]; exact bl_al (bl_al (Below.refl _ _))
  have k1 : w1.heap[w.heap.size]? = some (.cells #[.bool b, .string nm, .slice a 0 c] 114 (0, 0)) := by rw [hw1]; exact HK.blk_alloc (HK.blk_new _ _) _
  have k2 : w1.heap[w.heap.size + 1]? = some (.cells #[.bool b, .string nm, .slice a' 0 c'] 114 (0, 0)) := by rw [hw1]; exact blk_new1 _ _ _
  have x0 : w1.cell? ⟨w.heap.size, 0, none⟩ = some (.bool b) := HK.blk_cell k1 0
  have x1 : w1.cell? ⟨w.heap.size, 1, none⟩ = some (.string nm) := HK.blk_cell k1 1
  have x2 : w1.cell? ⟨w.heap.size, 2, none⟩ = some (.slice a 0 c) := HK.blk_cell k1 2
  have y0 : w1.cell? ⟨w.heap.size + 1, 0, none⟩ = some (.bool b) := HK.blk_cell k2 0
  have y1 : w1.cell? ⟨w.heap.size + 1, 1, none⟩ = some (.string nm) := HK.blk_cell k2 1
  have y2 : w1.cell? ⟨w.heap.size + 1, 2, none⟩ = some (.slice a' 0 c') := HK.blk_cell k2 2
  have HB1 := Lib.hid hB1
  clear k1 k2 hw1 hB1
  cases b <;> (
    go_wp2_with (go_at_call 80; (refine (H0.out _).mono ?_; rintro e w' ⟨rfl, rfl⟩))
    go_ret
    exact ⟨rfl, HB1.out⟩)
set_option maxRecDepth 100000 in
set_option maxHeartbeats 8000000 in
/-- SameTerms. -/
theorem terms_same (w : World) (s1 s2 : SL) (xs : List TT) (hs1 : IsTs (fun k => k < w.heap.size) w s1 xs) (hs2 : IsTs (fun k => k < w.heap.size) w s2 xs) (hc : ∀ t ∈ xs, t.args = []) (hl : xs.length ≤ 20000) : Calls Try.prog 80 #[s1.v, s2.v] w (RetB w (.bool true)) := by
  have hn1 := hs1.len
  have hn2 := hs2.len
  obtain ⟨sa, n, sc⟩ := s1
  obtain ⟨ta, m, tc⟩ := s2
  simp only at hn1 hn2
  obtain rfl : m = n := by rw [hn1, hn2]
  simp only [SL.v]
  have HS1 := Lib.hid hs1
  have HS2 := Lib.hid hs2
  have HC := Lib.hid hc
  have HN := Lib.hid hn1
  have hl2 : m ≤ 20000 := by omega
  clear hs1 hs2 hc hn1 hn2 hl
  go_enter Try.func80, Try.ntmps80
  go_wp2_with (fail)
  go_loopw [5] (fun k wr => ∃ j : Nat, j ≤ m ∧ k = .int .i64 j ∧ Below w.heap.size w wr) (fun k _ => m - (intOf k).toNat)
  case atStart => exact ⟨0, by omega, rfl, Below.refl _ _⟩
  case round =>
    obtain ⟨wo, rfl⟩ : ∃ wo : World, wo = wr := ⟨_, rfl⟩
    obtain ⟨j, hj, rfl, hB⟩ := hrel
    by_cases h1 : j < m
    · obtain ⟨q, hq⟩ : ∃ q, xs[j]? = some q := ⟨_, List.getElem?_eq_getElem (by rw [← HN.out]; exact h1)⟩
      have hp1 := HS1.out.up hB
      have hp2 := HS2.out.up hB
      have hqa := HC.out q (List.mem_of_getElem? hq)
      obtain ⟨g1, o1, v1, rfl, _, hc1, ht1⟩ := tsAt hp1 hq
      obtain ⟨g2, o2, v2, rfl, _, hc2, ht2⟩ := tsAt hp2 hq
      have k1 := ht1.len
      have k2 := ht2.len
      rw [hqa] at k1 k2
      obtain ⟨qb, qn, qa⟩ := q
      obtain ⟨ua, un, uc⟩ := v1
      obtain ⟨va, vn, vc⟩ := v2
      simp only [List.length_nil] at k1 k2
      subst k1 k2
      simp only [TT.vals, TT.b, TT.nm, SL.v] at hc1 hc2
      have hcq := fun (W : World) (hBW : Below wo.heap.size wo W) => term_same W qb qn ua va uc vc
      clear hqa ht1 ht2 hq
      have x0 : wo.cell? ⟨g1, o1 + j * 3, none⟩ = some (.bool qb) := hc1 0 _ rfl
      have x1 : wo.cell? ⟨g1, o1 + j * 3 + 1, none⟩ = some (.string qn) := hc1 1 _ rfl
      have x2 : wo.cell? ⟨g1, o1 + j * 3 + 2, none⟩ = some (.slice ua 0 uc) := hc1 2 _ rfl
      have y0 : wo.cell? ⟨g2, o2 + j * 3, none⟩ = some (.bool qb) := hc2 0 _ rfl
      have y1 : wo.cell? ⟨g2, o2 + j * 3 + 1, none⟩ = some (.string qn) := hc2 1 _ rfl
      have y2 : wo.cell? ⟨g2, o2 + j * 3 + 2, none⟩ = some (.slice va 0 vc) := hc2 2 _ rfl
      have b1 : (0 : Int) ≤ (j : Int) := by omega
      have b2 : (j : Int) < (m : Int) := by omega
      have HCQ := Lib.hid hcq
      have HBR := Lib.hid hB
      clear hc1 hc2 hcq hB hp1 hp2
      go_upto_region 6 with (fail)
      go_region_held3 (fun w' => w'.cell? ⟨g1, o1 + j * 3, none⟩ = some (.bool qb) ∧ w'.cell? ⟨g1, o1 + j * 3 + 1, none⟩ = some (.string qn) ∧ w'.cell? ⟨g1, o1 + j * 3 + 2, none⟩ = some (.slice ua 0 uc) ∧ w'.cell? ⟨g2, o2 + j * 3, none⟩ = some (.bool qb) ∧ w'.cell? ⟨g2, o2 + j * 3 + 1, none⟩ = some (.string qn) ∧ w'.cell? ⟨g2, o2 + j * 3 + 2, none⟩ = some (.slice va 0 vc))
        (refine ⟨cell_then x0 (by repeat (first | (with_reducible exact Below.refl _ _) | (with_reducible exact HBc.out) | (with_reducible exact HBb.out) | (with_reducible exact HBa.out) | (with_reducible apply bl_al) | (with_reducible apply bl_dr))), cell_then x1 (by repeat (first | (with_reducible exact Below.refl _ _) | (with_reducible exact HBc.out) | (with_reducible exact HBb.out) | (with_reducible exact HBa.out) | (with_reducible apply bl_al) | (with_reducible apply bl_dr))), cell_then x2 (by repeat (first | (with_reducible exact Below.refl _ _) | (with_reducible exact HBc.out) | (with_reducible exact HBb.out) | (with_reducible exact HBa.out) | (with_reducible apply bl_al) | (with_reducible apply bl_dr))), cell_then y0 (by repeat (first | (with_reducible exact Below.refl _ _) | (with_reducible exact HBc.out) | (with_reducible exact HBb.out) | (with_reducible exact HBa.out) | (with_reducible apply bl_al) | (with_reducible apply bl_dr))), cell_then y1 (by repeat (first | (with_reducible exact Below.refl _ _) | (with_reducible exact HBc.out) | (with_reducible exact HBb.out) | (with_reducible exact HBa.out) | (with_reducible apply bl_al) | (with_reducible apply bl_dr))), cell_then y2 (by repeat (first | (with_reducible exact Below.refl _ _) | (with_reducible exact HBc.out) | (with_reducible exact HBb.out) | (with_reducible exact HBa.out) | (with_reducible apply bl_al) | (with_reducible apply bl_dr)))⟩)
        (first
          | (go_at_call 84
             refine (HCQ.out _ (by repeat (first | (with_reducible exact Below.refl _ _) | (with_reducible exact HBc.out) | (with_reducible exact HBb.out) | (with_reducible exact HBa.out) | (with_reducible apply bl_al) | (with_reducible apply bl_dr)))).mono ?_
             rintro e w' ⟨rfl, hB'⟩
             have hb := below_then (a := wo) (c := w') (by repeat (first | (with_reducible exact Below.refl _ _) | (with_reducible exact HBc.out) | (with_reducible exact HBb.out) | (with_reducible exact HBa.out) | (with_reducible apply bl_al) | (with_reducible apply bl_dr))) hB'
             have HBa := Lib.hid hb
             clear hb hB'))
      all_goals (
        go_wp2_with (fail)
        go_roundw
        case rel => exact ⟨j + 1, by omega, by go_num, below_then HBR.out HBa.out⟩
        case measure => simp [intOf]; omega)
    · obtain rfl : j = m := by omega
      have b1 : ¬ ((j : Int) < (j : Int)) := by omega
      have HBR := Lib.hid hB
      clear hB
      go_wp2_with (fail)
      go_ret
      exact ⟨rfl, HBR.out⟩
/-- SameForm at a formula. -/
def FormSame (f : FT) : Prop := ∀ (w : World) (a1 s1 a2 s2 : SL), IsTs (fun k => k < w.heap.size) w a1 f.args → IsTs (fun k => k < w.heap.size) w a2 f.args → IsFs (fun k => k < w.heap.size) w s1 f.subs → IsFs (fun k => k < w.heap.size) w s2 f.subs →
  Calls Try.prog 69 #[.agg #[.int .u8 f.op, .string f.nm, a1.v, s1.v], .agg #[.int .u8 f.op, .string f.nm, a2.v, s2.v]] w (RetB w (.bool true))
def FormsSame (fs : List FT) : Prop := ∀ (w : World) (s1 s2 : SL), IsFs (fun k => k < w.heap.size) w s1 fs → IsFs (fun k => k < w.heap.size) w s2 fs → Calls Try.prog 81 #[s1.v, s2.v] w (RetB w (.bool true))
set_option maxRecDepth 100000 in
set_option maxHeartbeats 4000000 in
theorem form_same_of (f : FT) (hf : ∀ t ∈ f.args, t.args = []) (hl : f.args.length ≤ 20000) (he : FormsSame f.subs) : FormSame f := by
  intro w a1 s1 a2 s2 h1 h2 h3 h4
  have h0 := fun (W : World) (hB : Below w.heap.size w W) => terms_same W a1 a2 f.args (h1.up hB) (h2.up hB) hf hl
  have h5 := fun (W : World) (hB : Below w.heap.size w W) => he W s1 s2 (h3.up hB) (h4.up hB)
  obtain ⟨op, nm, args, subs⟩ := f
  obtain ⟨aa, an, ac⟩ := a1
  obtain ⟨ba, bn, bc⟩ := a2
  obtain ⟨sa, sn, sc⟩ := s1
  obtain ⟨ta, tn, tc⟩ := s2
  simp only [FT.op, FT.nm, SL.v] at h0 h5 ⊢
  have H0 := Lib.hid h0
  have H5 := Lib.hid h5
  clear h0 h5 hf he h1 h2 h3 h4 hl
  go_enter Try.func69, Try.ntmps69
  go_upto_region 1 with (fail)
  obtain ⟨w1, hw1⟩ : ∃ w1, w1 = (w.alloc (.cells #[.int .u8 op, .string nm, .slice aa an ac, .slice sa sn sc] 26)).alloc (.cells #[.int .u8 op, .string nm, .slice ba bn bc, .slice ta tn tc] 26) := ⟨_, rfl⟩
  rw [← hw1]
  have hB1 : Below w.heap.size w w1 := by rw [hw1]; exact bl_al (bl_al (Below.refl _ _))
  have k1 : w1.heap[w.heap.size]? = some (.cells #[.int .u8 op, .string nm, .slice aa an ac, .slice sa sn sc] 26 (0, 0)) := by rw [hw1]; exact HK.blk_alloc (HK.blk_new _ _) _
  have k2 : w1.heap[w.heap.size + 1]? = some (.cells #[.int .u8 op, .string nm, .slice ba bn bc, .slice ta tn tc] 26 (0, 0)) := by rw [hw1]; exact blk_new1 _ _ _
  have x0 : w1.cell? ⟨w.heap.size, 0, none⟩ = some (.int .u8 op) := HK.blk_cell k1 0
  have x1 : w1.cell? ⟨w.heap.size, 1, none⟩ = some (.string nm) := HK.blk_cell k1 1
  have x2 : w1.cell? ⟨w.heap.size, 2, none⟩ = some (.slice aa an ac) := HK.blk_cell k1 2
  have x3 : w1.cell? ⟨w.heap.size, 3, none⟩ = some (.slice sa sn sc) := HK.blk_cell k1 3
  have y0 : w1.cell? ⟨w.heap.size + 1, 0, none⟩ = some (.int .u8 op) := HK.blk_cell k2 0
  have y1 : w1.cell? ⟨w.heap.size + 1, 1, none⟩ = some (.string nm) := HK.blk_cell k2 1
  have y2 : w1.cell? ⟨w.heap.size + 1, 2, none⟩ = some (.slice ba bn bc) := HK.blk_cell k2 2
  have y3 : w1.cell? ⟨w.heap.size + 1, 3, none⟩ = some (.slice ta tn tc) := HK.blk_cell k2 3
  have HB1 := Lib.hid hB1
  clear k1 k2 hw1 hB1
  go_wp2_with (first
    | (go_at_call 80
       refine (H0.out _ HB1.out).mono ?_
       rintro e w2 ⟨rfl, hB2⟩
       have z3 := cell_then x3 hB2
       have u3 := cell_then y3 hB2
       have HB2 := Lib.hid (below_then HB1.out hB2)
       clear hB2)
    | (go_at_call 81
       refine (H5.out _ HB2.out).mono ?_
       rintro e w3 ⟨rfl, hB3⟩
       have HB3 := Lib.hid (below_then HB2.out hB3)
       clear hB3))
  go_ret
  exact ⟨rfl, HB3.out⟩
set_option maxRecDepth 100000 in
set_option maxHeartbeats 8000000 in
/-- SameForms. -/
theorem forms_same (xs : List FT) (hc : ∀ f ∈ xs, FormSame f) (hl : xs.length ≤ 20000) : FormsSame xs := by
  intro w s1 s2 hs1 hs2
  have hn1 := hs1.len
  have hn2 := hs2.len
  obtain ⟨sa, n, sc⟩ := s1
  obtain ⟨ta, m, tc⟩ := s2
  simp only at hn1 hn2
  obtain rfl : m = n := by rw [hn1, hn2]
  simp only [SL.v]
  have HS1 := Lib.hid hs1
  have HS2 := Lib.hid hs2
  have HC := Lib.hid hc
  have HN := Lib.hid hn1
  have hl2 : m ≤ 20000 := by omega
  clear hs1 hs2 hc hn1 hn2 hl
  go_enter Try.func81, Try.ntmps81
  go_wp2_with (fail)
  go_loopw [5] (fun k wr => ∃ j : Nat, j ≤ m ∧ k = .int .i64 j ∧ Below w.heap.size w wr) (fun k _ => m - (intOf k).toNat)
  case atStart => exact ⟨0, by omega, rfl, Below.refl _ _⟩
  case round =>
    obtain ⟨wo, rfl⟩ : ∃ wo : World, wo = wr := ⟨_, rfl⟩
    obtain ⟨j, hj, rfl, hB⟩ := hrel
    by_cases h1 : j < m
    · obtain ⟨q, hq⟩ : ∃ q, xs[j]? = some q := ⟨_, List.getElem?_eq_getElem (by rw [← HN.out]; exact h1)⟩
      have hp1 := HS1.out.up hB
      have hp2 := HS2.out.up hB
      have hqa := HC.out q (List.mem_of_getElem? hq)
      obtain ⟨g1, o1, v1, u1, rfl, _, hc1, ht1, hf1⟩ := fsAt hp1 hq
      obtain ⟨g2, o2, v2, u2, rfl, _, hc2, ht2, hf2⟩ := fsAt hp2 hq
      have hcq := fun (W : World) (hBW : Below wo.heap.size wo W) => hqa W v1 u1 v2 u2 (ht1.up hBW) (ht2.up hBW) (hf1.up hBW) (hf2.up hBW)
      obtain ⟨qo, qn, qa, qs⟩ := q
      obtain ⟨ua, un, uc⟩ := v1
      obtain ⟨va, vn, vc⟩ := v2
      obtain ⟨da, dn, dc⟩ := u1
      obtain ⟨ea, en, ec⟩ := u2
      simp only [FT.vals, FT.op, FT.nm, SL.v] at hc1 hc2 hcq
      clear hqa ht1 ht2 hf1 hf2 hq
      have x0 : wo.cell? ⟨g1, o1 + j * 4, none⟩ = some (.int .u8 qo) := hc1 0 _ rfl
      have x1 : wo.cell? ⟨g1, o1 + j * 4 + 1, none⟩ = some (.string qn) := hc1 1 _ rfl
      have x2 : wo.cell? ⟨g1, o1 + j * 4 + 2, none⟩ = some (.slice ua un uc) := hc1 2 _ rfl
      have x3 : wo.cell? ⟨g1, o1 + j * 4 + 3, none⟩ = some (.slice da dn dc) := hc1 3 _ rfl
      have y0 : wo.cell? ⟨g2, o2 + j * 4, none⟩ = some (.int .u8 qo) := hc2 0 _ rfl
      have y1 : wo.cell? ⟨g2, o2 + j * 4 + 1, none⟩ = some (.string qn) := hc2 1 _ rfl
      have y2 : wo.cell? ⟨g2, o2 + j * 4 + 2, none⟩ = some (.slice va vn vc) := hc2 2 _ rfl
      have y3 : wo.cell? ⟨g2, o2 + j * 4 + 3, none⟩ = some (.slice ea en ec) := hc2 3 _ rfl
      have b1 : (0 : Int) ≤ (j : Int) := by omega
      have b2 : (j : Int) < (m : Int) := by omega
      have HCQ := Lib.hid hcq
      have HBR := Lib.hid hB
      clear hc1 hc2 hcq hB hp1 hp2
      go_upto_region 6 with (fail)
      go_region_held3 (fun w' => w'.cell? ⟨g1, o1 + j * 4, none⟩ = some (.int .u8 qo) ∧ w'.cell? ⟨g1, o1 + j * 4 + 1, none⟩ = some (.string qn) ∧ w'.cell? ⟨g1, o1 + j * 4 + 2, none⟩ = some (.slice ua un uc) ∧ w'.cell? ⟨g1, o1 + j * 4 + 3, none⟩ = some (.slice da dn dc) ∧ w'.cell? ⟨g2, o2 + j * 4, none⟩ = some (.int .u8 qo) ∧ w'.cell? ⟨g2, o2 + j * 4 + 1, none⟩ = some (.string qn) ∧ w'.cell? ⟨g2, o2 + j * 4 + 2, none⟩ = some (.slice va vn vc) ∧ w'.cell? ⟨g2, o2 + j * 4 + 3, none⟩ = some (.slice ea en ec))
        (refine ⟨cell_then x0 (by repeat (first | (with_reducible exact Below.refl _ _) | (with_reducible exact HBc.out) | (with_reducible exact HBb.out) | (with_reducible exact HBa.out) | (with_reducible apply bl_al) | (with_reducible apply bl_dr))), cell_then x1 (by repeat (first | (with_reducible exact Below.refl _ _) | (with_reducible exact HBc.out) | (with_reducible exact HBb.out) | (with_reducible exact HBa.out) | (with_reducible apply bl_al) | (with_reducible apply bl_dr))), cell_then x2 (by repeat (first | (with_reducible exact Below.refl _ _) | (with_reducible exact HBc.out) | (with_reducible exact HBb.out) | (with_reducible exact HBa.out) | (with_reducible apply bl_al) | (with_reducible apply bl_dr))), cell_then x3 (by repeat (first | (with_reducible exact Below.refl _ _) | (with_reducible exact HBc.out) | (with_reducible exact HBb.out) | (with_reducible exact HBa.out) | (with_reducible apply bl_al) | (with_reducible apply bl_dr))), cell_then y0 (by repeat (first | (with_reducible exact Below.refl _ _) | (with_reducible exact HBc.out) | (with_reducible exact HBb.out) | (with_reducible exact HBa.out) | (with_reducible apply bl_al) | (with_reducible apply bl_dr))), cell_then y1 (by repeat (first | (with_reducible exact Below.refl _ _) | (with_reducible exact HBc.out) | (with_reducible exact HBb.out) | (with_reducible exact HBa.out) | (with_reducible apply bl_al) | (with_reducible apply bl_dr))), cell_then y2 (by repeat (first | (with_reducible exact Below.refl _ _) | (with_reducible exact HBc.out) | (with_reducible exact HBb.out) | (with_reducible exact HBa.out) | (with_reducible apply bl_al) | (with_reducible apply bl_dr))), cell_then y3 (by repeat (first | (with_reducible exact Below.refl _ _) | (with_reducible exact HBc.out) | (with_reducible exact HBb.out) | (with_reducible exact HBa.out) | (with_reducible apply bl_al) | (with_reducible apply bl_dr)))⟩)
        (first
          | (go_at_call 69
             refine (HCQ.out _ (by repeat (first | (with_reducible exact Below.refl _ _) | (with_reducible exact HBc.out) | (with_reducible exact HBb.out) | (with_reducible exact HBa.out) | (with_reducible apply bl_al) | (with_reducible apply bl_dr)))).mono ?_
             rintro e w' ⟨rfl, hB'⟩
             have hb := below_then (a := wo) (c := w') (by repeat (first | (with_reducible exact Below.refl _ _) | (with_reducible exact HBc.out) | (with_reducible exact HBb.out) | (with_reducible exact HBa.out) | (with_reducible apply bl_al) | (with_reducible apply bl_dr))) hB'
             have HBa := Lib.hid hb
             clear hb hB'))
      all_goals (
        go_wp2_with (fail)
        go_roundw
        case rel => exact ⟨j + 1, by omega, by go_num, below_then HBR.out HBa.out⟩
        case measure => simp [intOf]; omega)
    · obtain rfl : j = m := by omega
      have b1 : ¬ ((j : Int) < (j : Int)) := by omega
      have HBR := Lib.hid hB
      clear hB
      go_wp2_with (fail)
      go_ret
      exact ⟨rfl, HBR.out⟩
mutual
theorem form_same_all : ∀ f : FT, flatF f → FormSame f
  | .node op nm args subs, h => form_same_of _ h.1 h.2.1 (forms_same subs (form_same_allF subs h.2.2.2) h.2.2.1)
theorem form_same_allF : ∀ fs : List FT, flatFs fs → ∀ f ∈ fs, FormSame f
  | [], _, f, h => by simp at h
  | g :: fs, hs, f, h => by
    rcases List.mem_cons.1 h with he | h
    · rw [he]; exact form_same_all g hs.1
    · exact form_same_allF fs hs.2 f h
end
end Go.Proofs.Ytfebcpmbkljaoaa
namespace Go.Proofs.Ytfebcpmbkljaoaa
open Go.RowKit Go.HR
set_option linter.unusedVariables false
set_option linter.unusedSimpArgs false
set_option linter.unusedSectionVars false
theorem RichT.up {W W' : World} {t : PT} {r : RT} (h : RichT (fun k => k < W.heap.size) W t r) (hB : Below W.heap.size W W') : RichT (fun k => k < W'.heap.size) W' t r := RichT.turn (fun k hk => ⟨Nat.lt_of_lt_of_le hk hB.size, hB.block k hk⟩) h
theorem RichF.up {W W' : World} {t : List PT} {r : List RT} (h : RichF (fun k => k < W.heap.size) W t r) (hB : Below W.heap.size W W') : RichF (fun k => k < W'.heap.size) W' t r := RichF.turn (fun k hk => ⟨Nat.lt_of_lt_of_le hk hB.size, hB.block k hk⟩) h
theorem IsMq.up {W W' : World} {s : SL} {xs : List (List Int)} (h : IsMq (fun k => k < W.heap.size) W s xs) (hB : Below W.heap.size W W') : IsMq (fun k => k < W'.heap.size) W' s xs := h.turn (fun k hk => ⟨Nat.lt_of_lt_of_le hk hB.size, hB.block k hk⟩)
def ProofSame (r : RT) : Prop := ∀ (t1 t2 : PT) (w : World) (s1 s2 : SL), IsPs w.heap.size w s1 t1.subs → IsPs w.heap.size w s2 t2.subs → RichT (fun k => k < w.heap.size) w t1 r → RichT (fun k => k < w.heap.size) w t2 r → Calls Try.prog 53 #[.agg (t1.arr s1), .agg (t2.arr s2)] w (RetB w (.bool true))
def ProofsSame (rs : List RT) : Prop := ∀ (l1 l2 : List PT) (w : World) (s1 s2 : SL), IsPs w.heap.size w s1 l1 → IsPs w.heap.size w s2 l2 → RichF (fun k => k < w.heap.size) w l1 rs → RichF (fun k => k < w.heap.size) w l2 rs → Calls Try.prog 70 #[s1.v, s2.v] w (RetB w (.bool true))
set_option maxRecDepth 100000 in
set_option maxHeartbeats 8000000 in
/-- SameProofs. -/
theorem proofs_same (xs : List RT) (hc : ∀ r ∈ xs, ProofSame r) (hl : xs.length ≤ 20000) : ProofsSame xs := by
  intro l1 l2 w s1 s2 hs1 hs2 hri1 hri2
  have hr1 := RichF.length hri1
  have hr2 := RichF.length hri2
  have hn1 := hs1.len
  have hn2 := hs2.len
  obtain ⟨sa, n, sc⟩ := s1
  obtain ⟨ta, m, tc⟩ := s2
  simp only at hn1 hn2
  obtain rfl : m = n := by omega
  simp only [SL.v]
  have HS1 := Lib.hid hs1
  have HS2 := Lib.hid hs2
  have HRI1 := Lib.hid hri1
  have HRI2 := Lib.hid hri2
  have HC := Lib.hid hc
  have hn3 : m = xs.length := by omega
  have HN := Lib.hid hn3
  have HN1 := Lib.hid hn1
  have HN2 := Lib.hid hn2
  have hl2 : m ≤ 20000 := by omega
  clear hs1 hs2 hc hn1 hn2 hl hr1 hr2 hn3 hri1 hri2
  go_enter Try.func70, Try.ntmps70
  go_wp2_with (fail)
  go_loopw [5] (fun k wr => ∃ j : Nat, j ≤ m ∧ k = .int .i64 j ∧ Below w.heap.size w wr) (fun k _ => m - (intOf k).toNat)
  case atStart => exact ⟨0, by omega, rfl, Below.refl _ _⟩
  case round =>
    obtain ⟨wo, rfl⟩ : ∃ wo : World, wo = wr := ⟨_, rfl⟩
    obtain ⟨j, hj, rfl, hB⟩ := hrel
    by_cases h1 : j < m
    · obtain ⟨q, hq⟩ : ∃ q, xs[j]? = some q := ⟨_, List.getElem?_eq_getElem (by rw [← HN.out]; exact h1)⟩
      have hp1 := HS1.out.up hB
      have hp2 := HS2.out.up hB
      have hqa := HC.out q (List.mem_of_getElem? hq)
      obtain ⟨t1, ht1⟩ : ∃ t1, l1[j]? = some t1 := ⟨_, List.getElem?_eq_getElem (by rw [← HN1.out]; exact h1)⟩
      obtain ⟨t2, ht2⟩ : ∃ t2, l2[j]? = some t2 := ⟨_, List.getElem?_eq_getElem (by rw [← HN2.out]; exact h1)⟩
      obtain ⟨g1, o1, rfl⟩ := ps_addr hp1 ht1
      obtain ⟨g2, o2, rfl⟩ := ps_addr hp2 ht2
      obtain ⟨v1, hc1, hs1⟩ := row_at hp1 ht1
      obtain ⟨v2, hc2, hs2⟩ := row_at hp2 ht2
      have hri1 := (RichF.get HRI1.out ht1 hq).up hB
      have hri2 := (RichF.get HRI2.out ht2 hq).up hB
      have hcq := fun (W : World) (hBW : Below wo.heap.size wo W) => hqa t1 t2 W v1 v2 (hs1.up hBW) (hs2.up hBW) (hri1.up hBW) (hri2.up hBW)
      obtain ⟨p0, ⟨p1, p2, ⟨pa, pb, pc⟩, ⟨pd, pe, pf⟩, p5, ⟨pj, pk, pl⟩⟩, ps⟩ := t1
      obtain ⟨pg, ph, pi⟩ := v1
      obtain ⟨q0, ⟨q1, q2, ⟨qa, qb, qc⟩, ⟨qd, qe, qf⟩, q5, ⟨qj, qk, ql⟩⟩, qs⟩ := t2
      obtain ⟨qg, qh, qi⟩ := v2
      simp only [PT.vals, PT.arr, PT.rule, PT.o, PT.subs, SL.v] at hc1 hc2 hcq
      clear hqa ht1 ht2 hq hri1 hri2 hs1 hs2
      have x0 : wo.cell? ⟨g1, o1 + j * 8, none⟩ = some (.string p0) := hc1 0 _ rfl
      have x1 : wo.cell? ⟨g1, o1 + j * 8 + 1, none⟩ = some (.int .u8 p1) := hc1 1 _ rfl
      have x2 : wo.cell? ⟨g1, o1 + j * 8 + 2, none⟩ = some (.string p2) := hc1 2 _ rfl
      have x3 : wo.cell? ⟨g1, o1 + j * 8 + 3, none⟩ = some (.slice pa pb pc) := hc1 3 _ rfl
      have x4 : wo.cell? ⟨g1, o1 + j * 8 + 4, none⟩ = some (.slice pd pe pf) := hc1 4 _ rfl
      have x5 : wo.cell? ⟨g1, o1 + j * 8 + 5, none⟩ = some (.int .i64 p5) := hc1 5 _ rfl
      have x6 : wo.cell? ⟨g1, o1 + j * 8 + 6, none⟩ = some (.slice pg ph pi) := hc1 6 _ rfl
      have x7 : wo.cell? ⟨g1, o1 + j * 8 + 7, none⟩ = some (.slice pj pk pl) := hc1 7 _ rfl
      have y0 : wo.cell? ⟨g2, o2 + j * 8, none⟩ = some (.string q0) := hc2 0 _ rfl
      have y1 : wo.cell? ⟨g2, o2 + j * 8 + 1, none⟩ = some (.int .u8 q1) := hc2 1 _ rfl
      have y2 : wo.cell? ⟨g2, o2 + j * 8 + 2, none⟩ = some (.string q2) := hc2 2 _ rfl
      have y3 : wo.cell? ⟨g2, o2 + j * 8 + 3, none⟩ = some (.slice qa qb qc) := hc2 3 _ rfl
      have y4 : wo.cell? ⟨g2, o2 + j * 8 + 4, none⟩ = some (.slice qd qe qf) := hc2 4 _ rfl
      have y5 : wo.cell? ⟨g2, o2 + j * 8 + 5, none⟩ = some (.int .i64 q5) := hc2 5 _ rfl
      have y6 : wo.cell? ⟨g2, o2 + j * 8 + 6, none⟩ = some (.slice qg qh qi) := hc2 6 _ rfl
      have y7 : wo.cell? ⟨g2, o2 + j * 8 + 7, none⟩ = some (.slice qj qk ql) := hc2 7 _ rfl
      have b1 : (0 : Int) ≤ (j : Int) := by omega
      have b2 : (j : Int) < (m : Int) := by omega
      have HCQ := Lib.hid hcq
      have HBR := Lib.hid hB
      clear hc1 hc2 hcq hB hp1 hp2
      go_upto_region 6 with (fail)
      go_region_held3 (fun w' => w'.cell? ⟨g1, o1 + j * 8, none⟩ = some (.string p0) ∧ w'.cell? ⟨g1, o1 + j * 8 + 1, none⟩ = some (.int .u8 p1) ∧ w'.cell? ⟨g1, o1 + j * 8 + 2, none⟩ = some (.string p2) ∧ w'.cell? ⟨g1, o1 + j * 8 + 3, none⟩ = some (.slice pa pb pc) ∧ w'.cell? ⟨g1, o1 + j * 8 + 4, none⟩ = some (.slice pd pe pf) ∧ w'.cell? ⟨g1, o1 + j * 8 + 5, none⟩ = some (.int .i64 p5) ∧ w'.cell? ⟨g1, o1 + j * 8 + 6, none⟩ = some (.slice pg ph pi) ∧ w'.cell? ⟨g1, o1 + j * 8 + 7, none⟩ = some (.slice pj pk pl) ∧ w'.cell? ⟨g2, o2 + j * 8, none⟩ = some (.string q0) ∧ w'.cell? ⟨g2, o2 + j * 8 + 1, none⟩ = some (.int .u8 q1) ∧ w'.cell? ⟨g2, o2 + j * 8 + 2, none⟩ = some (.string q2) ∧ w'.cell? ⟨g2, o2 + j * 8 + 3, none⟩ = some (.slice qa qb qc) ∧ w'.cell? ⟨g2, o2 + j * 8 + 4, none⟩ = some (.slice qd qe qf) ∧ w'.cell? ⟨g2, o2 + j * 8 + 5, none⟩ = some (.int .i64 q5) ∧ w'.cell? ⟨g2, o2 + j * 8 + 6, none⟩ = some (.slice qg qh qi) ∧ w'.cell? ⟨g2, o2 + j * 8 + 7, none⟩ = some (.slice qj qk ql))
        (refine ⟨cell_then x0 (by repeat (first | (with_reducible exact Below.refl _ _) | (with_reducible exact HBc.out) | (with_reducible exact HBb.out) | (with_reducible exact HBa.out) | (with_reducible apply bl_al) | (with_reducible apply bl_dr))), cell_then x1 (by repeat (first | (with_reducible exact Below.refl _ _) | (with_reducible exact HBc.out) | (with_reducible exact HBb.out) | (with_reducible exact HBa.out) | (with_reducible apply bl_al) | (with_reducible apply bl_dr))), cell_then x2 (by repeat (first | (with_reducible exact Below.refl _ _) | (with_reducible exact HBc.out) | (with_reducible exact HBb.out) | (with_reducible exact HBa.out) | (with_reducible apply bl_al) | (with_reducible apply bl_dr))), cell_then x3 (by repeat (first | (with_reducible exact Below.refl _ _) | (with_reducible exact HBc.out) | (with_reducible exact HBb.out) | (with_reducible exact HBa.out) | (with_reducible apply bl_al) | (with_reducible apply bl_dr))), cell_then x4 (by repeat (first | (with_reducible exact Below.refl _ _) | (with_reducible exact HBc.out) | (with_reducible exact HBb.out) | (with_reducible exact HBa.out) | (with_reducible apply bl_al) | (with_reducible apply bl_dr))), cell_then x5 (by repeat (first | (with_reducible exact Below.refl _ _) | (with_reducible exact HBc.out) | (with_reducible exact HBb.out) | (with_reducible exact HBa.out) | (with_reducible apply bl_al) | (with_reducible apply bl_dr))), cell_then x6 (by repeat (first | (with_reducible exact Below.refl _ _) | (with_reducible exact HBc.out) | (with_reducible exact HBb.out) | (with_reducible exact HBa.out) | (with_reducible apply bl_al) | (with_reducible apply bl_dr))), cell_then x7 (by repeat (first | (with_reducible exact Below.refl _ _) | (with_reducible exact HBc.out) | (with_reducible exact HBb.out) | (with_reducible exact HBa.out) | (with_reducible apply bl_al) | (with_reducible apply bl_dr))), cell_then y0 (by repeat (first | (with_reducible exact Below.refl _ _) | (with_reducible exact HBc.out) | (with_reducible exact HBb.out) | (with_reducible exact HBa.out) | (with_reducible apply bl_al) | (with_reducible apply bl_dr))), cell_then y1 (by repeat (first | (with_reducible exact Below.refl _ _) | (with_reducible exact HBc.out) | (with_reducible exact HBb.out) | (with_reducible exact HBa.out) | (with_reducible apply bl_al) | (with_reducible apply bl_dr))), cell_then y2 (by repeat (first | (with_reducible exact Below.refl _ _) | (with_reducible exact HBc.out) | (with_reducible exact HBb.out) | (with_reducible exact HBa.out) | (with_reducible apply bl_al) | (with_reducible apply bl_dr))), cell_then y3 (by repeat (first | (with_reducible exact Below.refl _ _) | (with_reducible exact HBc.out) | (with_reducible exact HBb.out) | (with_reducible exact HBa.out) | (with_reducible apply bl_al) | (with_reducible apply bl_dr))), cell_then y4 (by repeat (first | (with_reducible exact Below.refl _ _) | (with_reducible exact HBc.out) | (with_reducible exact HBb.out) | (with_reducible exact HBa.out) | (with_reducible apply bl_al) | (with_reducible apply bl_dr))), cell_then y5 (by repeat (first | (with_reducible exact Below.refl _ _) | (with_reducible exact HBc.out) | (with_reducible exact HBb.out) | (with_reducible exact HBa.out) | (with_reducible apply bl_al) | (with_reducible apply bl_dr))), cell_then y6 (by repeat (first | (with_reducible exact Below.refl _ _) | (with_reducible exact HBc.out) | (with_reducible exact HBb.out) | (with_reducible exact HBa.out) | (with_reducible apply bl_al) | (with_reducible apply bl_dr))), cell_then y7 (by repeat (first | (with_reducible exact Below.refl _ _) | (with_reducible exact HBc.out) | (with_reducible exact HBb.out) | (with_reducible exact HBa.out) | (with_reducible apply bl_al) | (with_reducible apply bl_dr)))⟩)
        (first
          | (go_at_call 53
             refine (HCQ.out _ (by repeat (first | (with_reducible exact Below.refl _ _) | (with_reducible exact HBc.out) | (with_reducible exact HBb.out) | (with_reducible exact HBa.out) | (with_reducible apply bl_al) | (with_reducible apply bl_dr)))).mono ?_
             rintro e w' ⟨rfl, hB'⟩
             have hb := below_then (a := wo) (c := w') (by repeat (first | (with_reducible exact Below.refl _ _) | (with_reducible exact HBc.out) | (with_reducible exact HBb.out) | (with_reducible exact HBa.out) | (with_reducible apply bl_al) | (with_reducible apply bl_dr))) hB'
             have HBa := Lib.hid hb
             clear hb hB'))
      all_goals (
        go_wp2_with (fail)
        go_roundw
        case rel => exact ⟨j + 1, by omega, by go_num, below_then HBR.out HBa.out⟩
        case measure => simp [intOf]; omega)
    · obtain rfl : j = m := by omega
      have b1 : ¬ ((j : Int) < (j : Int)) := by omega
      have HBR := Lib.hid hB
      clear hB
      go_wp2_with (fail)
      go_ret
      exact ⟨rfl, HBR.out⟩
set_option maxRecDepth 100000 in
set_option maxHeartbeats 8000000 in
/-- SameProof. -/
theorem proof_same_of (r : RT) (hr : shortR r) (he : ProofsSame r.subs) : ProofSame r := by
  intro t1 t2 w s1 s2 hs1 hs2 hri1 hri2
  obtain ⟨rl, op, nm, args, fs, lb, marks, rs⟩ := r
  obtain ⟨⟨i1, i2⟩, ⟨i3, i4⟩, ⟨i5, i6⟩, i7, i8⟩ := hr
  obtain ⟨p0, ⟨p1, p2, ⟨pa, pb, pc⟩, ⟨pd, pe, pf⟩, p5, ⟨pj, pk, pl⟩⟩, ps⟩ := t1
  obtain ⟨pg, ph, pi⟩ := s1
  obtain ⟨q0, ⟨q1, q2, ⟨qa, qb, qc⟩, ⟨qd, qe, qf⟩, q5, ⟨qj, qk, ql⟩⟩, qs⟩ := t2
  obtain ⟨qg, qh, qi⟩ := s2
  obtain ⟨a1, a2, a3, a4, a5, a6, a7, a8⟩ := hri1
  obtain ⟨b1, b2, b3, b4, b5, b6, b7, b8⟩ := hri2
  simp only at a1 a2 a3 a4 b1 b2 b3 b4 a5 a6 a7 b5 b6 b7
  subst a1 a2 a3 a4 b2 b3 b4
  subst b1
  simp only [PT.subs, RT.subs] at he hs1 hs2
  have hf := fun (W : World) (hB : Below w.heap.size w W) => form_same_all (.node q1 q2 args fs) ⟨i1, i2, i4, i3⟩ W _ _ _ _ (a5.up hB) (b5.up hB) (a6.up hB) (b6.up hB)
  have hp := fun (W : World) (hB : Below w.heap.size w W) => he _ _ W _ _ (hs1.up hB) (hs2.up hB) (a8.up hB) (b8.up hB)
  have hm := fun (W : World) (hB : Below w.heap.size w W) => marks_same W _ _ _ (a7.up hB) (b7.up hB) i5 i6
  simp only [FT.op, FT.nm, SL.v] at hf hp hm
  simp only [PT.arr, PT.rule, PT.o, SL.v]
  have HF := Lib.hid hf
  have HP := Lib.hid hp
  have HM := Lib.hid hm
  clear hf hp hm he hs1 hs2 a5 a6 a7 a8 b5 b6 b7 b8 i1 i2 i3 i4 i5 i6 i7 i8
  go_enter Try.func53, Try.ntmps53
  go_upto_region 1 with (fail)
  obtain ⟨w1, hw1⟩ : ∃ w1, w1 = (w.alloc (.cells #[.string q0, .int .u8 q1, .string q2, .slice pa pb pc, .slice pd pe pf, .int .i64 q5, .slice pg ph pi, .slice pj pk pl] 30)).alloc (.cells #[.string q0, .int .u8 q1, .string q2, .slice qa qb qc, .slice qd qe qf, .int .i64 q5, .slice qg qh qi, .slice qj qk ql] 30) := ⟨_, rfl⟩
  rw [← hw1]
  have hB1 : Below w.heap.size w w1 := by rw [hw1]; exact bl_al (bl_al (Below.refl _ _))
  have k1 : w1.heap[w.heap.size]? = some (.cells #[.string q0, .int .u8 q1, .string q2, .slice pa pb pc, .slice pd pe pf, .int .i64 q5, .slice pg ph pi, .slice pj pk pl] 30 (0, 0)) := by rw [hw1]; exact HK.blk_alloc (HK.blk_new _ _) _
  have k2 : w1.heap[w.heap.size + 1]? = some (.cells #[.string q0, .int .u8 q1, .string q2, .slice qa qb qc, .slice qd qe qf, .int .i64 q5, .slice qg qh qi, .slice qj qk ql] 30 (0, 0)) := by rw [hw1]; exact blk_new1 _ _ _
  have x0 : w1.cell? ⟨w.heap.size, 0, none⟩ = some (.string q0) := HK.blk_cell k1 0
  have x1 : w1.cell? ⟨w.heap.size, 1, none⟩ = some (.int .u8 q1) := HK.blk_cell k1 1
  have x2 : w1.cell? ⟨w.heap.size, 2, none⟩ = some (.string q2) := HK.blk_cell k1 2
  have x3 : w1.cell? ⟨w.heap.size, 3, none⟩ = some (.slice pa pb pc) := HK.blk_cell k1 3
  have x4 : w1.cell? ⟨w.heap.size, 4, none⟩ = some (.slice pd pe pf) := HK.blk_cell k1 4
  have x5 : w1.cell? ⟨w.heap.size, 5, none⟩ = some (.int .i64 q5) := HK.blk_cell k1 5
  have x6 : w1.cell? ⟨w.heap.size, 6, none⟩ = some (.slice pg ph pi) := HK.blk_cell k1 6
  have x7 : w1.cell? ⟨w.heap.size, 7, none⟩ = some (.slice pj pk pl) := HK.blk_cell k1 7
  have y0 : w1.cell? ⟨w.heap.size + 1, 0, none⟩ = some (.string q0) := HK.blk_cell k2 0
  have y1 : w1.cell? ⟨w.heap.size + 1, 1, none⟩ = some (.int .u8 q1) := HK.blk_cell k2 1
  have y2 : w1.cell? ⟨w.heap.size + 1, 2, none⟩ = some (.string q2) := HK.blk_cell k2 2
  have y3 : w1.cell? ⟨w.heap.size + 1, 3, none⟩ = some (.slice qa qb qc) := HK.blk_cell k2 3
  have y4 : w1.cell? ⟨w.heap.size + 1, 4, none⟩ = some (.slice qd qe qf) := HK.blk_cell k2 4
  have y5 : w1.cell? ⟨w.heap.size + 1, 5, none⟩ = some (.int .i64 q5) := HK.blk_cell k2 5
  have y6 : w1.cell? ⟨w.heap.size + 1, 6, none⟩ = some (.slice qg qh qi) := HK.blk_cell k2 6
  have y7 : w1.cell? ⟨w.heap.size + 1, 7, none⟩ = some (.slice qj qk ql) := HK.blk_cell k2 7
  have HB1 := Lib.hid hB1
  clear k1 k2 hw1 hB1
  go_wp2_with (first
    | (go_at_call 69
       refine (HF.out _ (HB1.out.trans (Below.refl _ _))).mono ?_
       rintro e w2 ⟨rfl, hB2⟩
       have xa0 := cell_then x0 hB2
       have xa1 := cell_then x1 hB2
       have xa2 := cell_then x2 hB2
       have xa3 := cell_then x3 hB2
       have xa4 := cell_then x4 hB2
       have xa5 := cell_then x5 hB2
       have xa6 := cell_then x6 hB2
       have xa7 := cell_then x7 hB2
       have ya0 := cell_then y0 hB2
       have ya1 := cell_then y1 hB2
       have ya2 := cell_then y2 hB2
       have ya3 := cell_then y3 hB2
       have ya4 := cell_then y4 hB2
       have ya5 := cell_then y5 hB2
       have ya6 := cell_then y6 hB2
       have ya7 := cell_then y7 hB2
       have HB2 := Lib.hid (below_then HB1.out hB2)
       clear hB2)
    | (go_at_call 70
       refine (HP.out _ HB2.out).mono ?_
       rintro e w3 ⟨rfl, hB3⟩
       have xb0 := cell_then xa0 hB3
       have xb1 := cell_then xa1 hB3
       have xb2 := cell_then xa2 hB3
       have xb3 := cell_then xa3 hB3
       have xb4 := cell_then xa4 hB3
       have xb5 := cell_then xa5 hB3
       have xb6 := cell_then xa6 hB3
       have xb7 := cell_then xa7 hB3
       have yb0 := cell_then ya0 hB3
       have yb1 := cell_then ya1 hB3
       have yb2 := cell_then ya2 hB3
       have yb3 := cell_then ya3 hB3
       have yb4 := cell_then ya4 hB3
       have yb5 := cell_then ya5 hB3
       have yb6 := cell_then ya6 hB3
       have yb7 := cell_then ya7 hB3
       have HB3 := Lib.hid (below_then HB2.out hB3)
       clear hB3)
    | (go_at_call 71
       refine (HM.out _ HB3.out).mono ?_
       rintro e w4 ⟨rfl, d4, rfl⟩))
  go_ret
  exact ⟨rfl, HB3.out.trans ⟨rfl, rfl, rfl, Nat.le_refl _, fun _ _ => rfl⟩⟩
mutual
theorem proof_same : ∀ r : RT, shortR r → ProofSame r
  | .node a b c d e f g rs, h => proof_same_of _ h (proofs_same rs (proof_sameF rs h.2.2.2.2) (by have := h.2.2.2.1; omega))
theorem proof_sameF : ∀ rs : List RT, shortF rs → ∀ r ∈ rs, ProofSame r
  | [], _, f, h => by simp at h
  | g :: fs, hs, f, h => by
    rcases List.mem_cons.1 h with he | h
    · rw [he]; exact proof_same g hs.1
    · exact proof_sameF fs hs.2 f h
end
end Go.Proofs.Ytfebcpmbkljaoaa
