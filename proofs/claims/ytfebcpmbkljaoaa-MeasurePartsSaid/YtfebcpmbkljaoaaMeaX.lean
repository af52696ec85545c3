/- The walks of Built and of awake. -/
import Derived.Test.YtfebcpmbkljaoaaMeaW
namespace Go.Proofs.Ytfebcpmbkljaoaa
open Go.RowKit Go.HR
set_option linter.unusedVariables false
set_option linter.unusedSimpArgs false
set_option linter.unusedSectionVars false
/-- Bytes in memory. -/
def BytesAt (w : World) (a : Option Addr) (n : Nat) (L : List Nat) : Prop :=
  n = L.length ∧ ∀ (k : Nat) x, L[k]? = some x → x ≤ 255 ∧ ∃ ad, a = some ad ∧ w.cell? (ad.add k) = some (.int .u8 x)
theorem BytesAt.below {w w' : World} {a : Option Addr} {n : Nat} {L : List Nat} (h : BytesAt w a n L) (hb : Below w.heap.size w w') : BytesAt w' a n L :=
  ⟨h.1, fun k x hx => by
    obtain ⟨h0, ad, h1, h2⟩ := h.2 k x hx
    exact ⟨h0, ad, h1, (hb.cell (World.block_lt_of_cell? w _ h2)).trans h2⟩⟩
/-- A proof that a call has made. -/
def RetP (w : World) (t : PT) (e : Ending) (w' : World) : Prop :=
  ∃ sv : SL, e = .returned (.agg (t.arr sv)) ∧ IsPq (fun k => w.heap.size ≤ k ∧ k < w'.heap.size) w' sv t.subs ∧ Below w.heap.size w w'
set_option maxRecDepth 100000 in
set_option maxHeartbeats 2000000 in
theorem built_call (w : World) (a : Option Addr) (n c : Nat) (L : List Nat) (h : BytesAt w a n L) : Calls Try.prog 10 #[.slice a n c] w (RetP w (builtT L)) := by
  obtain ⟨w4, hw4⟩ : ∃ w4, w4 = (((w.alloc (.cells #[.slice a n c] 22)).alloc (.cells #[.string ⟨#[]⟩, .int .u8 0, .string ⟨#[]⟩, .slice none 0 0, .slice none 0 0, .int .i64 0, .slice none 0 0, .slice none 0 0] 30)).alloc (.cells #[.int .i64 0] 3)).alloc (.cells #[.func (.func 39) #[] #[.pointer (some ⟨w.heap.size + 2, 0, none⟩), .pointer (some ⟨w.heap.size, 0, none⟩), .pointer (some ⟨w.heap.size + 3, 0, none⟩)]] 73) := ⟨_, rfl⟩
  have hb : Below w.heap.size w w4 := by rw [hw4]; exact ((((Below.refl _ w).alloc (Nat.le_refl _) _).alloc (by simp) _).alloc (by simp; omega) _).alloc (by simp; omega) _
  have hAt : BAt w4 (w.heap.size + 2) w.heap.size (w.heap.size + 3) 0 a n c L := by
    refine ⟨?_, ?_, ?_, h.1, fun k x hx => ?_⟩
    · rw [hw4]; have := HK.blk_new ((w.alloc (.cells #[.slice a n c] 22)).alloc (.cells #[.string ⟨#[]⟩, .int .u8 0, .string ⟨#[]⟩, .slice none 0 0, .slice none 0 0, .int .i64 0, .slice none 0 0, .slice none 0 0] 30)) (.cells #[.int .i64 0] 3)
      rw [World.size_alloc, World.size_alloc] at this
      exact HK.blk_alloc this _
    · rw [hw4]; exact HK.blk_alloc (HK.blk_alloc (HK.blk_alloc (HK.blk_new _ _) _) _) _
    · rw [hw4]; have := HK.blk_new (((w.alloc (.cells #[.slice a n c] 22)).alloc (.cells #[.string ⟨#[]⟩, .int .u8 0, .string ⟨#[]⟩, .slice none 0 0, .slice none 0 0, .int .i64 0, .slice none 0 0, .slice none 0 0] 30)).alloc (.cells #[.int .i64 0] 3)) (.cells #[.func (.func 39) #[] #[.pointer (some ⟨w.heap.size + 2, 0, none⟩), .pointer (some ⟨w.heap.size, 0, none⟩), .pointer (some ⟨w.heap.size + 3, 0, none⟩)]] 73)
      rw [World.size_alloc, World.size_alloc, World.size_alloc] at this
      exact this
    · obtain ⟨h0, ad, h1, h2⟩ := h.2 k x hx
      have hlt := World.block_lt_of_cell? w _ h2
      exact ⟨h0, ad, h1, (hb.cell hlt).trans h2, by rw [add_block] at hlt; omega⟩
  have hbox : w4.heap[w.heap.size + 1]? = some (.cells #[.string ⟨#[]⟩, .int .u8 0, .string ⟨#[]⟩, .slice none 0 0, .slice none 0 0, .int .i64 0, .slice none 0 0, .slice none 0 0] 30 (0, 0)) := by
    rw [hw4]
    have := HK.blk_new (w.alloc (.cells #[.slice a n c] 22)) (.cells #[.string ⟨#[]⟩, .int .u8 0, .string ⟨#[]⟩, .slice none 0 0, .slice none 0 0, .int .i64 0, .slice none 0 0, .slice none 0 0] 30)
    rw [World.size_alloc] at this
    exact HK.blk_alloc (HK.blk_alloc this _) _
  have hz : w4.heap.size = w.heap.size + 4 := by rw [hw4]; simp
  have hcall := make_all 12 w4 (w.heap.size + 2) w.heap.size (w.heap.size + 3) 0 0 (by omega) (by omega) hAt
  unfold RetM at hcall
  have ht : builtT L = (mkT L 12 0).1 := rfl
  rw [ht]
  obtain ⟨j, hj⟩ : ∃ j, j = (mkT L 12 0).2 := ⟨_, rfl⟩
  rw [← hj] at hcall
  obtain ⟨t, ht2⟩ : ∃ t, t = (mkT L 12 0).1 := ⟨_, rfl⟩
  rw [← ht2] at hcall ⊢
  clear ht ht2 hj
  obtain ⟨rule, ⟨op, name, ⟨aa, an, ac⟩, ⟨fa, fn, fc⟩, label, ⟨ma, mn, mc⟩⟩, subs⟩ := t
  simp only [PT.arr, PT.rule, PT.o, PT.subs, SL.v, RetP] at hcall ⊢
  rw [hw4] at hcall
  have HC := Lib.hid hcall
  have HB := Lib.hid hb
  have HX := Lib.hid hbox
  have HZ := Lib.hid hz
  have HW := Lib.hid hw4
  clear hcall hb hbox hz hw4 hAt h
  go_enter Try.func10, Try.ntmps10
  go_wp2_with (
    go_at_call 39
    refine HC.out.mono ?_
    rintro e w6 ⟨⟨sa, sn, sc⟩, rfl, hq, hb6, hF⟩
    rw [← HW.out] at hF hq
    have hz6 := hF.size
    rw [HZ.out] at hz6
    have hr6 := hF.heap HX.out (by omega)
    have z0 : w6.cell? ⟨w.heap.size + 1, 0, none⟩ = some (.string ⟨#[]⟩) := HK.blk_cell hr6 0
    have z1 : w6.cell? ⟨w.heap.size + 1, 1, none⟩ = some (.int .u8 0) := HK.blk_cell hr6 1
    have z2 : w6.cell? ⟨w.heap.size + 1, 2, none⟩ = some (.string ⟨#[]⟩) := HK.blk_cell hr6 2
    have z3 : w6.cell? ⟨w.heap.size + 1, 3, none⟩ = some (.slice none 0 0) := HK.blk_cell hr6 3
    have z4 : w6.cell? ⟨w.heap.size + 1, 4, none⟩ = some (.slice none 0 0) := HK.blk_cell hr6 4
    have z5 : w6.cell? ⟨w.heap.size + 1, 5, none⟩ = some (.int .i64 0) := HK.blk_cell hr6 5
    have z6 : w6.cell? ⟨w.heap.size + 1, 6, none⟩ = some (.slice none 0 0) := HK.blk_cell hr6 6
    have z7 : w6.cell? ⟨w.heap.size + 1, 7, none⟩ = some (.slice none 0 0) := HK.blk_cell hr6 7
    have zf := fun i => HK.blk_frozen hr6 i
    have HQ := Lib.hid hq
    have HF := Lib.hid hF
    have HR := Lib.hid hr6
    have HZ6 := Lib.hid hz6
    clear hq hb6 hF hr6 hz6)
  have hF8 := set8_frm w6 (w.heap.size + 1) (.string rule) (.int .u8 op) (.string name) (.slice aa an ac) (.slice fa fn fc) (.int .i64 label) (.slice sa sn sc) (.slice ma mn mc)
  refine bodyPost_ret (results_cell_row (p := 2) (ty := 30) (by kernel_rfl) _ _ (w.heap.size + 1) 30 _ (0, 0) _ rfl (set8 HR.out _ _ _ _ _ _ _ _) Try.underlying30 rfl (by kernel_rfl)) rfl ?_
  have hz8 := hF8.size
  refine ⟨⟨sa, sn, sc⟩, rfl, HQ.out.turn fun b hb => ⟨⟨?_, by omega⟩, hF8.block b hb.2 ?_⟩, ?_⟩
  · have := HZ.out; omega
  · have := HZ.out; omega
  · exact HB.out.trans ((HF.out.below (B := w.heap.size) (by rw [HZ.out]; omega) (fun k e => by omega)).trans (hF8.below (B := w.heap.size) (by have := HZ6.out; omega) (fun k e => by omega)))
end Go.Proofs.Ytfebcpmbkljaoaa
