/- The walk of full. -/
import Derived.Test.YtfebcpmbkljaoaaAt
import Derived.Test.YtfebcpmbkljaoaaMeaX
namespace Go.Proofs.Ytfebcpmbkljaoaa
open Go.RowKit Go.HR
set_option linter.unusedVariables false
set_option linter.unusedSimpArgs false
set_option linter.unusedSectionVars false
theorem elem22 : HK.ElemOk Try.prog 22 5 1 1 := HK.ElemOk.mk' (z := .int .u8 0) Try.underlying22 (by kernel_rfl) rfl (by decide)
theorem own_next {W0 W W1 : World} {b g cap n m e size : Nat} {v : Value} {xs ys : List Value} (h : W.ownsRow b e size v n xs) (hb : b ≤ W0.heap.size)
    (hown : W1.ownsRow 0 e size (.slice (some ⟨g, 0, none⟩) m cap) m ys) (hat : v.ownBlock = some g ∨ g = W0.heap.size) : W1.ownsRow b e size (.slice (some ⟨g, 0, none⟩) m cap) m ys := by
  refine ⟨hown.1, ?_⟩
  rcases hown.2 with h0 | ⟨g', cap', cur', hv', hg', r'⟩
  · exact .inl h0
  · refine .inr ⟨g', cap', cur', hv', ?_, r'⟩
    simp only [Value.slice.injEq, Option.some.injEq, Addr.mk.injEq] at hv'
    obtain ⟨⟨rfl, _⟩, _⟩ := hv'
    rcases hat with e | e
    · exact (h.lt _ e).1
    · omega
def fours (n : Nat) : List Value := List.replicate n (.int .u8 4)
theorem full_call (w : World) : Calls Try.prog 38 #[] w fun e w' => ∃ g c, e = .returned (.slice (some ⟨g, 0, none⟩) 60 c) ∧ BytesAt w' (some ⟨g, 0, none⟩) 60 (List.replicate 60 4) ∧ Below w.heap.size w w' := by
  go_enter Try.func38, Try.ntmps38
  go_wp2_with (fail)
  go_loopw [1, 2] (fun v k wr => ∃ (m : Nat) (va : Option Addr) (vc : Nat), m ≤ 60 ∧ v = .slice va m vc ∧ k = .int .i64 m ∧ wr.ownsRow w.heap.size 5 1 (.slice va m vc) m (fours m) ∧ Below w.heap.size w wr) (fun _ k _ => 60 - (intOf k).toNat)
  case atStart => exact ⟨0, none, 0, by omega, rfl, rfl, World.ownsRow_nil _ _ _ _, Below.refl _ _⟩
  case round =>
    obtain ⟨m, va, vc, hm, rfl, rfl, hrow, hB⟩ := hrel
    by_cases h1 : m < 60
    · have b1 : (m : Int) < 60 := by omega
      have hz := hB.size
      have HROW := Lib.hid hrow
      have HB := Lib.hid hB
      clear hrow hB
      go_upto_region 5 with (
        at_builtin
        refine HK.wpList_app1 rfl elem22 _ _ rfl (.slice va m vc) m (fours m) rfl (row_mono (HROW.out.alloc _) (Nat.zero_le _)) wr.heap.size 1 #[.int .u8 4] rfl (HK.blk_new _ _) rfl (by simp [Value.oneCell']) (by simp only [maxLen]; omega) (by omega) ?_
        intro gg cap w7 hown7 hgrow hat hlt)
      have hn := own_next (W0 := wr.alloc (.cells #[.int .u8 4] 5)) HROW.out (by simp; omega) hown7 hat
      have hb7 : Below w.heap.size w w7 := (HB.out.alloc hz _).grown hgrow (by simp; omega) (fun k e => (HROW.out.lt k e).1)
      have HN := Lib.hid hn
      have HB7 := Lib.hid hb7
      clear hown7 hgrow hat hlt hn hb7
      go_wp2_with (fail)
      go_roundw
      case rel => exact ⟨m + 1, some ⟨gg, 0, none⟩, cap, by omega, rfl, by go_num, by have := HN.out; simpa [fours, List.replicate_succ'] using this, HB7.out⟩
      case measure => simp [intOf]; omega
    · obtain rfl : m = 60 := by omega
      obtain ⟨g, cap, hv, hg1, hg2⟩ := hrow.form (by omega)
      simp only [Value.slice.injEq] at hv
      obtain ⟨rfl, _⟩ := hv
      have hcells := hrow.cells (g := g) rfl
      have HC := Lib.hid hcells
      have HB := Lib.hid hB
      clear hcells hB hrow
      go_wp2_with (fail)
      go_ret
      refine ⟨g, vc, rfl, ⟨by simp, fun k x hx => ?_⟩, HB.out⟩
      have hx4 : x = 4 := List.eq_of_mem_replicate (List.mem_of_getElem? hx)
      subst hx4
      have hk : k < 60 := by
        obtain ⟨hl, _⟩ := List.getElem?_eq_some_iff.1 hx
        simpa using hl
      exact ⟨by omega, ⟨g, 0, none⟩, rfl, HC.out k (.int .u8 4) (by unfold fours; rw [List.getElem?_replicate, if_pos hk])⟩
end Go.Proofs.Ytfebcpmbkljaoaa
