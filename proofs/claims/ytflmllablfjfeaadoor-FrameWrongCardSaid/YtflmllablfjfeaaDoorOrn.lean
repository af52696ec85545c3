import Derived.Test.YtflmllablfjfeaaDoorOra
import Derived.Test.YtflmllablfjfeaaDoorOri
import Derived.Test.YtflmllablfjfeaaDoorFrj
import Derived.Sort.CutIn
import Derived.Sort.QuietIn
namespace Go.Proofs.YtflmllablfjfeaaDoor
open Go.RowKit Go.HK Go.FR Go.HRB
set_option linter.unusedVariables false
set_option linter.unusedSimpArgs false
set_option linter.unusedSectionVars false
attribute [local go_sem] Oper.semAt_some wide_fn asked_wide wide_depth
structure NuI (wb:World) (B6:Nat) (MO:Obj) (S:Nat) (W:World):Prop where
 hm:W.heap[wb.heap.size]? = some MO
 hs:W.heap[B6]? = some (.cells #[.int .i64 (S:Int)] 3 (0,0))
 hB:Below wb.heap.size wb W
 hz:B6 + 4 <= W.heap.size
theorem NuI.turn {wb:World} {B6 S b:Nat} {MO:Obj} {A C:World} (h:NuI wb B6 MO S A) (hlt:wb.heap.size < B6) (hb:b = B6 + 7) (ht:Turn b (B6 + 4) A C):NuI wb B6 MO S C where
 hm:=ht.same _ _ h.hm (by omega) (.inl (by omega))
 hs:=ht.same _ _ h.hs (by omega) (.inl (by omega))
 hB:=⟨ht.os.trans h.hB.os,ht.tape.trans h.hB.tape,ht.output.trans h.hB.output,Nat.le_trans h.hB.size ht.size,fun k hk => by
  have hlt:=Nat.lt_of_lt_of_le hk h.hB.size
  have:=ht.same k A.heap[k] (Array.getElem?_eq_getElem hlt) (by omega) (.inl (by omega))
  rw [this,<- Array.getElem?_eq_getElem hlt]
  exact h.hB.block k hk⟩
 hz:=Nat.le_trans h.hz ht.size
end Go.Proofs.YtflmllablfjfeaaDoor
