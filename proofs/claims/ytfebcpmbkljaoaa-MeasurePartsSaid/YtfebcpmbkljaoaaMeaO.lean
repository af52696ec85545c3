/- The walks of what makes holes and steps. -/
import Derived.Test.YtfebcpmbkljaoaaMeaN
namespace Go.Proofs.Ytfebcpmbkljaoaa
open Go.RowKit Go.HR
set_option linter.unusedVariables false
set_option linter.unusedSimpArgs false
set_option linter.unusedSectionVars false
def SL.nil : SL := ⟨none, 0, 0⟩
def PO.nil : PO := ⟨0, ⟨#[]⟩, SL.nil, SL.nil, 0, SL.nil⟩
def holeT : PT := .node ⟨#[63]⟩ PO.nil []
def ruleR : ByteArray := ⟨#[114]⟩
set_option maxRecDepth 100000 in
set_option maxHeartbeats 2000000 in
theorem hole_call (w : World) : Calls Try.prog 25 #[] w (RetB w (.agg (holeT.arr SL.nil))) := by
  simp only [holeT, PT.arr, PT.rule, PT.o, PO.nil, SL.nil, SL.v]
  go_enter Try.func25, Try.ntmps25
  go_wp2
  refine bodyPost_ret (results_cell_row (p := 0) (ty := 30) (by kernel_rfl) _ _ w.heap.size 30 _ (0, 0) _ rfl (HK.blk_new _ _) Try.underlying30 rfl (by kernel_rfl)) rfl ?_
  exact ⟨rfl, (Below.refl _ w).alloc (Nat.le_refl _) _⟩
set_option maxRecDepth 100000 in
set_option maxHeartbeats 2000000 in
theorem step_call (w : World) (s : SL) (ts : List PT) : Calls Try.prog 28 #[s.v] w (RetB w (.agg ((PT.node ruleR PO.nil ts).arr s))) := by
  obtain ⟨a, n, c⟩ := s
  simp only [ruleR, PT.arr, PT.rule, PT.o, PO.nil, SL.nil, SL.v]
  go_enter Try.func28, Try.ntmps28
  go_wp2
  refine bodyPost_ret (results_cell_row (p := 2) (ty := 30) (by kernel_rfl) _ _ w.heap.size 30 _ (0, 0) _ rfl (HK.blk_new _ _) Try.underlying30 rfl (by kernel_rfl)) rfl ?_
  exact ⟨rfl, (Below.refl _ w).alloc (Nat.le_refl _) _⟩
end Go.Proofs.Ytfebcpmbkljaoaa
