import Derived.Test.YtflmllablfjfeaaDoorOrm
namespace Go.Proofs.YtflmllablfjfeaaDoor
open Go.RowKit Go.HK Go.FR Go.HRB Lib
set_option linter.unusedVariables false
set_option linter.unusedSimpArgs false
set_option linter.unusedSectionVars false
attribute [local go_sem] Oper.semAt_some wide_fn asked_wide wide_depth
theorem nth_call (wb:World) (kind n mask i nk nc cN:Nat) (na:Option Addr) (ss:List ByteArray) 
  (hkd:kind < 256) (hmask:mask < 256) (h1:1 <= n) (h4:n <= 4) (hi:i <= 9223372036854775807) (hk9:nk <= 1000000) (hnk:ss.length = nk)
  (hS:∀ t s,ss[t]? = some s -> s.size <= maxLen /\ ∃ g o,na = some ⟨g,o,none⟩ /\ g < wb.heap.size /\ wb.cell? ⟨g,o + t,none⟩ = some (.string s))
  (hC:∀ W,Below wb.heap.size wb W -> Calls Tryd.prog 32 #[.int .u8 (kind:Int),.int .u8 (mask:Int),.slice na nk nc,.int .i64 (n:Int)] W (fun e w' => Below W.heap.size W w' /\ e = .returned (.tuple #[.int .i64 (cN:Int),.int .i64 0])))
  (hct:countS (decide (kind = 3)) mask nk n <= 16384) :
  Calls Tryd.prog 33 #[.int .u8 (kind:Int),.int .u8 (mask:Int),.slice na nk nc,.int .i64 (n:Int),.int .i64 (i:Int)] wb (RetNt wb (decide (kind = 3)) kind mask n nk i ss) :=
 callsIn_wide.1 (nth_aux 4 (by omega) wb kind n mask i nk nc cN na ss hkd hmask h1 h4 hi hk9 hnk hS hC hct)
def RetNx (wb:World) (er:Nat) (e:Ending) (w':World):Prop:=Below wb.heap.size wb w' /\ e = .returned (.tuple #[.agg #[.int .u8 0,.int .i64 0,.slice none 0 0,.int .i64 0,.slice none 0 0,.slice none 0 0,.slice none 0 0],.int .i64 (er:Int)])
set_option maxRecDepth 100000 in
set_option maxHeartbeats 4000000 in
theorem nth_err (wb:World) (kind mask nk nc:Nat) (na:Option Addr) (n i:Int) (er:Nat) (her:er ≠ 0)
  (hC:∀ W,Below wb.heap.size wb W -> Calls Tryd.prog 32 #[.int .u8 (kind:Int),.int .u8 (mask:Int),.slice na nk nc,.int .i64 n] W (fun e w' => Below W.heap.size W w' /\ ∃ c,e = .returned (.tuple #[.int .i64 c,.int .i64 (er:Int)]))) :
  Calls Tryd.prog 33 #[.int .u8 (kind:Int),.int .u8 (mask:Int),.slice na nk nc,.int .i64 n,.int .i64 i] wb (RetNx wb er):=by
 suffices h:CallsIn Fence.wide 4 Tryd.prog 33 #[.int .u8 (kind:Int),.int .u8 (mask:Int),.slice na nk nc,.int .i64 n,.int .i64 i] wb (RetNx wb er) from callsIn_wide.1 h
 have HC:=hid hC
 have he0:((er:Int) != 0) = true:=by simp; omega
 have he1:¬ (er:Int) = 0:=by omega
 clear hC
 refine callsIn_of_wp_marks Tryd.func33 rfl trivial ?_ rfl
 simp only [Tryd.ntmps33,List.size_toArray,List.length_cons,List.length_nil,Nat.reduceAdd,Nat.reduceSub,Array.replicate_succ,Array.replicate_zero,List.push_toArray,List.append_toArray,List.nil_append,List.cons_append]
 gi_upto_region 1 with (fail)
 obtain ⟨A0,hA0⟩:∃ A,A = ((((((wb.alloc (.cells #[.int .u8 (kind:Int)] 5)).alloc (.cells #[.slice na nk nc] 63)).alloc (.cells #[.int .i64 n] 3)).alloc (.cells #[.int .i64 i] 3)).alloc (.cells #[.int .u8 0,.int .i64 0,.slice none 0 0,.int .i64 0,.slice none 0 0,.slice none 0 0,.slice none 0 0] 30)).alloc (.cells #[.int .i64 0] 38)):=⟨_,rfl⟩
 have hb0:Below wb.heap.size wb A0:=by
  rw [hA0]; exact (((((((Below.refl _ wb).alloc (Nat.le_refl _) _).alloc (by simp) _).alloc (by simp; omega) _).alloc (by simp; omega) _).alloc (by simp; omega) _).alloc (by simp; omega) _)
 have hz0:A0.heap.size = wb.heap.size + 6:=by rw [hA0]; simp
 have hN:∀ W:World,(∀ k,k < wb.heap.size + 6 -> W.heap[k]? = A0.heap[k]?) -> W.heap[wb.heap.size]? = some (.cells #[.int .u8 (kind:Int)] 5 (0,0)) /\ W.heap[wb.heap.size + 1]? = some (.cells #[.slice na nk nc] 63 (0,0)) /\ W.heap[wb.heap.size + 2]? = some (.cells #[.int .i64 n] 3 (0,0)) /\ W.heap[wb.heap.size + 3]? = some (.cells #[.int .i64 i] 3 (0,0)) /\ W.heap[wb.heap.size + 4]? = some (.cells #[.int .u8 0,.int .i64 0,.slice none 0 0,.int .i64 0,.slice none 0 0,.slice none 0 0,.slice none 0 0] 30 (0,0)) /\ W.heap[wb.heap.size + 5]? = some (.cells #[.int .i64 0] 38 (0,0)):=by
  intro W hW
  have h:∀ (k:Nat) (o:Obj),A0.heap[k]? = some o -> k < wb.heap.size + 6 -> W.heap[k]? = some o:=fun k o ho hk => (hW k hk).trans ho
  refine ⟨h _ _ ?_ (by omega),h _ _ ?_ (by omega),h _ _ ?_ (by omega),h _ _ ?_ (by omega),h _ _ ?_ (by omega),h _ _ ?_ (by omega)⟩
  ·rw [hA0]; iterate 5 (refine HK.blk_alloc ?_ _)
   exact HK.blk_new _ _
  ·rw [hA0]; iterate 4 (refine HK.blk_alloc ?_ _)
   have:=HK.blk_new (wb.alloc (.cells #[.int .u8 (kind:Int)] 5)) (.cells #[.slice na nk nc] 63)
   simpa using this
  ·rw [hA0]; iterate 3 (refine HK.blk_alloc ?_ _)
   have:=HK.blk_new ((wb.alloc (.cells #[.int .u8 (kind:Int)] 5)).alloc (.cells #[.slice na nk nc] 63)) (.cells #[.int .i64 n] 3)
   simpa using this
  ·rw [hA0]; iterate 2 (refine HK.blk_alloc ?_ _)
   have:=HK.blk_new (((wb.alloc (.cells #[.int .u8 (kind:Int)] 5)).alloc (.cells #[.slice na nk nc] 63)).alloc (.cells #[.int .i64 n] 3)) (.cells #[.int .i64 i] 3)
   simpa using this
  ·rw [hA0]; refine HK.blk_alloc ?_ _
   have:=HK.blk_new ((((wb.alloc (.cells #[.int .u8 (kind:Int)] 5)).alloc (.cells #[.slice na nk nc] 63)).alloc (.cells #[.int .i64 n] 3)).alloc (.cells #[.int .i64 i] 3)) (.cells #[.int .u8 0,.int .i64 0,.slice none 0 0,.int .i64 0,.slice none 0 0,.slice none 0 0,.slice none 0 0] 30)
   simpa using this
  ·rw [hA0]
   have:=HK.blk_new (((((wb.alloc (.cells #[.int .u8 (kind:Int)] 5)).alloc (.cells #[.slice na nk nc] 63)).alloc (.cells #[.int .i64 n] 3)).alloc (.cells #[.int .i64 i] 3)).alloc (.cells #[.int .u8 0,.int .i64 0,.slice none 0 0,.int .i64 0,.slice none 0 0,.slice none 0 0,.slice none 0 0] 30)) (.cells #[.int .i64 0] 38)
   simpa using this
 rw [<- hA0]
 simp only [Nat.add_assoc,Nat.reduceAdd]
 have HB0:=hid hb0
 have HN:=hid hN
 have HZ0:=hid hz0
 clear hA0 hb0 hN hz0
 obtain ⟨n0,n1,n2,n3,n4,n5⟩:=HN.out A0 fun _ _ => rfl
 have c5:=HK.blk_cell n0 0
 have c7:=HK.blk_cell n1 0
 have c8:=HK.blk_cell n2 0
 clear n0 n1 n2 n3 n4 n5
 gi_upto_region 2 with (gi_at_call 32; refine (callsIn_wide.2 (HC.out _ HB0.out)).mono ?_; rintro e w1 ⟨hB1,c,rfl⟩; have HB1:=hid hB1; clear hB1)
 clear c5 c7 c8
 obtain ⟨n0,n1,n2,n3,n4,n5⟩:=HN.out w1 fun k hk => HB1.out.block k (by have:=HZ0.out; omega)
 have k4:=fun i => HK.blk_cell n4 i
 have f4:=fun i => HK.blk_frozen n4 i
 have k5:=HK.blk_cell n5 0
 have f5:=HK.blk_frozen n5 0
 have HN4:=hid n4
 have HN5:=hid n5
 clear n0 n1 n2 n3 n4 n5
 gi_wp2
 obtain ⟨W9,hW9⟩:∃ X,X = ((((((((w1.setCell ⟨wb.heap.size + 4,0,none⟩ (.int .u8 0)).setCell ⟨wb.heap.size + 4,1,none⟩ (.int .i64 0)).setCell ⟨wb.heap.size + 4,2,none⟩ (.slice none 0 0)).setCell ⟨wb.heap.size + 4,3,none⟩ (.int .i64 0)).setCell ⟨wb.heap.size + 4,4,none⟩ (.slice none 0 0)).setCell ⟨wb.heap.size + 4,5,none⟩ (.slice none 0 0)).setCell ⟨wb.heap.size + 4,6,none⟩ (.slice none 0 0)).setCell ⟨wb.heap.size + 5,0,none⟩ (.int .i64 (er:Int))):=⟨_,rfl⟩
 rw [<- hW9]
 have h94:W9.heap[wb.heap.size + 4]? = some (.cells #[.int .u8 0,.int .i64 0,.slice none 0 0,.int .i64 0,.slice none 0 0,.slice none 0 0,.slice none 0 0] 30 (0,0)):=by
  rw [hW9,Below.heap_setCell _ _ _ _ (by simp only; omega)]
  exact put7_same HN4.out rfl _ _ _ _ _ _ _
 have h95:W9.heap[wb.heap.size + 5]? = some (.cells #[.int .i64 (er:Int)] 38 (0,0)):=by
  have:=HK.blk_set (put7_other HN5.out (M:=wb.heap.size + 4) (by omega) (.int .u8 0) (.int .i64 0) (.slice none 0 0) (.int .i64 0) (.slice none 0 0) (.slice none 0 0) (.slice none 0 0)) 0 (.int .i64 (er:Int))
  rw [hW9]
  simpa using this
 have hbw:Below wb.heap.size wb w1:=HB0.out.trans (HB1.out.mono HB0.out.size)
 have hB9:Below wb.heap.size wb W9:=by
  rw [hW9]
  exact ((((((((hbw.setCell (by simp) _).setCell (by simp) _).setCell (by simp) _).setCell (by simp) _).setCell (by simp) _).setCell (by simp) _).setCell (by simp) _).setCell (by simp) _)
 have t0:=HK.blk_cell h94 0
 have t1:=HK.blk_cell h94 1
 have t2:=HK.blk_cell h94 2
 have t3:=HK.blk_cell h94 3
 have t4:=HK.blk_cell h94 4
 have t5:=HK.blk_cell h94 5
 have t6:=HK.blk_cell h94 6
 have t7:=HK.blk_cell h95 0
 have HB9:=hid hB9
 clear h94 h95 hB9 hbw hW9 k4 f4 k5 f5
 refine ⟨.tuple #[.agg #[.int .u8 0,.int .i64 0,.slice none 0 0,.int .i64 0,.slice none 0 0,.slice none 0 0,.slice none 0 0],.int .i64 (er:Int)],by simp [results,Tryd.results33,go_sem,t0,t1,t2,t3,t4,t5,t6,t7],HB9.out,rfl⟩
end Go.Proofs.YtflmllablfjfeaaDoor
