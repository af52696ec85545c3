import Derived.Test.YtflmllablfjfeaaDoorFrt
namespace Go.Proofs.YtflmllablfjfeaaDoor
open Go.RowKit Go.HK Go.FR Lib
set_option linter.unusedVariables false
set_option linter.unusedSimpArgs false
set_option linter.unusedSectionVars false
theorem info46:(Tryd.prog.info? 46).map (fun i => (i.zero,i.size,i.bytes)) = some (some (.agg #[.string ⟨#[]⟩,.int .i64 0,.int .i64 0]),3,32):=by kernel_rfl
theorem elem26:ElemOk Tryd.prog 26 46 3 32:=.mk' Tryd.underlying26 info46 rfl (by omega)
def fcs:Nat -> List Nat -> List Value
 | _,[] => []
 | i,x :: r => [.string (pqr i),.int .i64 0,.int .i64 (x:Int)] ++ fcs (i + 1) r
theorem fcs_append:∀ (i:Nat) (a b:List Nat),fcs i (a ++ b) = fcs i a ++ fcs (i + a.length) b
 | i,[],b => by simp [fcs]
 | i,x :: a,b => by
  have:=fcs_append (i + 1) a b
  simp only [List.cons_append,fcs,this,List.length_cons,List.append_assoc]
  rw [show i + 1 + a.length = i + (a.length + 1) by omega]
def factL:Nat -> List Nat -> List (ByteArray × Int × Int)
 | _,[] => []
 | i,x :: r => (pqr i,0,(x:Int)) :: factL (i + 1) r
theorem factL_len:∀ (i:Nat) (a:List Nat),(factL i a).length = a.length
 | i,[] => rfl
 | i,x :: a => by simp [factL,factL_len (i + 1) a]
theorem factL_get:∀ (l:List Nat) (i k:Nat) (f:ByteArray × Int × Int),(factL i l)[k]? = some f -> (fcs i l)[k * 3]? = some (.string f.1) /\ (fcs i l)[k * 3 + 1]? = some (.int .i64 f.2.1) /\ (fcs i l)[k * 3 + 2]? = some (.int .i64 f.2.2) /\ f.1.size <= maxLen
 | [],i,k,f,h => by simp [factL] at h
 | x :: l,i,0,f,h => by
  simp [factL] at h
  subst h
  exact ⟨by simp [fcs],by simp [fcs],by simp [fcs],(show (1:Nat) <= maxLen by unfold maxLen; omega)⟩
 | x :: l,i,k + 1,f,h => by
  have ih:=factL_get l (i + 1) k f (by simpa [factL] using h)
  have e:∀ j,(fcs i (x :: l))[(k + 1) * 3 + j]? = (fcs (i + 1) l)[k * 3 + j]?:=fun j => by
   show ([Value.string (pqr i),.int .i64 0,.int .i64 (x:Int)] ++ fcs (i + 1) l)[(k + 1) * 3 + j]? = _
   rw [List.getElem?_append_right (by simp; omega)]
   congr 1
   simp; omega
  exact ⟨(e 0).trans ih.1,(e 1).trans ih.2.1,(e 2).trans ih.2.2.1,ih.2.2.2⟩
theorem isFz_own {w:World} {b g c n:Nat} {l:List Nat} {S:Nat -> Prop} (hS:S g) (h:w.ownsRow b 46 3 (.slice (some ⟨g,0,none⟩) n c) n (fcs 0 l)) (hn:n = l.length):IsFz S w ⟨some ⟨g,0,none⟩,n,c⟩ (factL 0 l) :=
 ⟨by rw [factL_len]; exact hn,fun i f hf => by
  have hlt:=(List.getElem?_eq_some_iff.1 hf).1
  rw [factL_len] at hlt
  obtain ⟨a,b,d,e⟩:=factL_get l 0 i f hf
  refine ⟨g,0,rfl,hS,?_,?_,?_,e⟩
  ·rw [Nat.zero_add,h.cellAt (i * 3) (by omega)]; exact a
  ·rw [Nat.zero_add,h.cellAt (i * 3 + 1) (by omega)]; exact b
  ·rw [Nat.zero_add,h.cellAt (i * 3 + 2) (by omega)]; exact d⟩
theorem enc80:∀ k:Nat,k < 4 -> Utf8.encode (80 + (k:Int)) = pqr k:=by
 intro k hk
 rcases (by omega:k = 0 ∨ k = 1 ∨ k = 2 ∨ k = 3) with rfl | rfl | rfl | rfl <;> decide +kernel
def RetFa (w:World) (l:List Nat) (e:Ending) (w':World):Prop:=∃ v,e = .returned v /\ Below w.heap.size w w' /\ w'.ownsRow w.heap.size 46 3 v l.length (fcs 0 l)
set_option maxRecDepth 100000 in
set_option maxHeartbeats 2000000 in
theorem facts_call (w:World) (g o n c:Nat) (l:List Nat) (hR:IsR w g o l) (hn:l.length = n) (h3:n <= 3):Calls Tryd.prog 38 #[.slice (some ⟨g,o,none⟩) n c] w (RetFa w l):=by
 have HR:=hid hR
 have HN:=hid hn
 clear hR hn
 go_enter Tryd.func38,Tryd.ntmps38
 go_wp2_with (fail)
 go_loopw [3,7] (fun v i wr => ∃ (vo:Value) (k:Nat),vo = v /\ k <= n /\ i = .int .i64 k /\ wr.ownsRow w.heap.size 46 3 vo k (fcs 0 (l.take k)) /\ Below w.heap.size w wr) (fun _ i _ => n - (intOf i).toNat)
 case atStart => exact ⟨_,0,rfl,by omega,rfl,World.ownsRow_nil _ _ _ _,Below.refl _ _⟩
 case round =>
  obtain ⟨vo,k,rfl,hk,rfl,ho,hB⟩:=hrel
  by_cases hkn:(k:Int) < (n:Int)
  ·have b0:(0:Int) <= (k:Int):=by omega
   obtain ⟨x,hx⟩:∃ x,l[k]? = some x:=⟨_,List.getElem?_eq_getElem (by rw [HN.out]; omega)⟩
   have hc:=(HR.out.below hB) k x hx
   have hu:=enc80 k (by omega)
   have HNX:Hid (fcs 0 (l.take (k + 1)) = fcs 0 (l.take k) ++ [.string (pqr k),.int .i64 0,.int .i64 (x:Int)]):=hid (by
    rw [take_one hx,fcs_append,Nat.zero_add,List.length_take,Nat.min_eq_left (by rw [HN.out]; omega)]
    simp [fcs])
   have HO:=hid ho
   have HB:=hid hB
   clear hx ho hB
   go_wp2_with (
    at_builtin
    refine wpList_app_any rfl elem26 _ _ rfl vo w.heap.size k (fcs 0 (l.take k)) rfl (HO.out.alloc _) ⟨wr.heap.size,0,none⟩ 1 1 [.string (pqr k),.int .i64 0,.int .i64 (x:Int)] rfl rfl (fun j u hj => by rw [addr_add0,HK.blk_cell (HK.blk_new _ _),List.getElem?_toArray]; exact hj) (by simp [Value.oneCell']) (by simp only [maxLen]; omega) (by omega) (Nat.le_trans HB.out.size (by simp)) ?_
    intro v3 w3 hown hgrow hnil hat)
   go_roundw
   case rel => exact ⟨_,k + 1,rfl,by omega,by go_num,by rw [HNX.out]; exact hown,(HB.out.alloc HB.out.size _).grown hgrow (Nat.le_trans HB.out.size (by simp)) (fun m hm => own_ge HO.out m hm)⟩
   case measure => simp [intOf]; omega
  ·obtain rfl:k = n:=by omega
   have HO:=hid ho
   have HB:=hid hB
   clear ho hB
   go_wp2_with (fail)
   go_ret
   refine ⟨_,rfl,HB.out,?_⟩
   have:=HO.out
   rw [List.take_of_length_le (by rw [HN.out]; exact Nat.le_refl _)] at this
   rw [HN.out]
   exact this
end Go.Proofs.YtflmllablfjfeaaDoor
