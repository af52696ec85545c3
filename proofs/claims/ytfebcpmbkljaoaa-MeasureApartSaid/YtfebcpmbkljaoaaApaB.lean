/- MeasureApart: what its regions leave. -/
import Derived.Test.YtfebcpmbkljaoaaAparp
import Derived.Test.YtfebcpmbkljaoaaSame
namespace Go.Proofs.Ytfebcpmbkljaoaa
open Go.RowKit Go.HR
set_option linter.unusedVariables false
set_option linter.unusedSimpArgs false
set_option linter.unusedSectionVars false
/-- The box was laid ahead of the call. -/
theorem box_endA {wr w8 W' : World} {z0 z1 z2 z3 z4 z5 z6 z7 : Value} {sq : SL} {Rs : List PT} (hz : w8.heap[wr.heap.size]? = some (.cells #[z0, z1, z2, z3, z4, z5, z6, z7] 30 (0, 0))) (hq : IsPq (fun k => wr.heap.size + 1 ≤ k ∧ k < w8.heap.size) w8 sq Rs) (hb : Below wr.heap.size wr w8) (v0 v1 v2 v3 v4 v5 v6 v7 : Value)
    (hW : W' = (((((((w8.setCell ⟨wr.heap.size, 0, none⟩ v0).setCell ⟨wr.heap.size, 1, none⟩ v1).setCell ⟨wr.heap.size, 2, none⟩ v2).setCell ⟨wr.heap.size, 3, none⟩ v3).setCell ⟨wr.heap.size, 4, none⟩ v4).setCell ⟨wr.heap.size, 5, none⟩ v5).setCell ⟨wr.heap.size, 6, none⟩ v6).setCell ⟨wr.heap.size, 7, none⟩ v7) :
    W'.heap[wr.heap.size]? = some (.cells #[v0, v1, v2, v3, v4, v5, v6, v7] 30 (0, 0)) ∧ IsPs W'.heap.size W' sq Rs ∧ Below wr.heap.size wr W' := by
  subst hW
  have hF := set8_frm w8 wr.heap.size v0 v1 v2 v3 v4 v5 v6 v7
  have hzF := hF.size
  refine ⟨set8 hz _ _ _ _ _ _ _ _, ?_, hb.trans (hF.below hb.size (fun b e => by omega))⟩
  exact (hq.turn (T := fun b => b < _) fun b hb => ⟨Nat.lt_of_lt_of_le hb.2 hzF, hF.block b hb.2 (by omega)⟩).ps fun b hb => hb
/-- The box was laid behind it. -/
theorem box_endB {wr w8 : World} {sq : SL} {Rs : List PT} (hq : IsPq (fun k => wr.heap.size ≤ k ∧ k < w8.heap.size) w8 sq Rs) (hb : Below wr.heap.size wr w8) (o : Obj) :
    (w8.alloc o).heap[w8.heap.size]? = some o ∧ IsPs (w8.alloc o).heap.size (w8.alloc o) sq Rs ∧ Below wr.heap.size wr (w8.alloc o) :=
  ⟨HK.blk_new _ _, (hq.turn (T := fun b => b < (w8.alloc o).heap.size) fun b hb => ⟨by simp; omega, Below.heap_alloc w8 _ b hb.2⟩).ps fun b hb => hb, bl_al hb⟩
/-- The second goal's number is another one. -/
theorem other_goal {na i r : Nat} (hi : i < na) (hr : r < na - 1) : (i + 1 + r) % na < na ∧ (i + 1 + r) % na ≠ i := by
  refine ⟨Nat.mod_lt _ (by omega), ?_⟩
  by_cases h : i + 1 + r < na
  · rw [Nat.mod_eq_of_lt h]; omega
  · rw [Nat.mod_eq_sub_mod (by omega), Nat.mod_eq_of_lt (by omega)]; omega
end Go.Proofs.Ytfebcpmbkljaoaa
