import Derived.Test.YtdobflpbkfkmgaaGreatDoorPbz
import Derived.Test.YtdobflpbkfkmgaaGreatDoorMno
namespace Go.Proofs.YtdobflpbkfkmgaaGreatDoor
open Go.RowKit Go.HK Go.FR Lib
set_option linter.unusedVariables false
set_option linter.unusedSimpArgs false
set_option linter.unusedSectionVars false
def termA (r:An Tm):An Tm:=match r with | .ok t => if rightT t = true /\ nodesT t <= 400 /\ depthT t <= 40 then .ok t else .bad 0 3 | x => x
theorem one_term {S:Nat -> Prop} {W:World} {g:Nat} {b:Bool} {nm:ByteArray} {s:SL} {args:List Tm} (hx:nm.size <= maxLen) (hs:IsTs S W s args) (h:W.heap[g]? = some (.cells #[.bool b,.string nm,s.v] 36 (0,0))) (hg:S g):IsTs S W ⟨some ⟨g,0,none⟩,1,1⟩ [.mk b nm args]:=by
 refine ts_row [(.mk b nm args,s)] (fun i v hv => ?_) hg ?_ rfl
 ·rw [HK.blk_cell h]
  rcases (by omega:i = 0 ∨ i = 1 ∨ i = 2 ∨ 3 <= i) with rfl | rfl | rfl | h6
  iterate 3 exact hv
  rw [List.getElem?_eq_none (by simpa [celT,tmV] using h6)] at hv; cases hv
 ·intro p hp
  rw [List.mem_singleton] at hp; subst hp
  exact ⟨hs,hx⟩
theorem one_v {W:World} {lo g:Nat} {f:Tm} {o8:Bool} {nm:ByteArray} {aa:Option Addr} {an ac:Nat} (hv:TmV W lo f (.agg #[.bool o8,.string nm,.slice aa an ac])) (h:W.heap[g]? = some (.cells #[.bool o8,.string nm,.slice aa an ac] 36 (0,0))):IsTs (SN W) W ⟨some ⟨g,0,none⟩,1,1⟩ [f]:=by
 obtain ⟨s2,he,h1,h4⟩:=hv
 obtain ⟨b,n,args⟩:=f
 obtain ⟨ba,bn,bc⟩:=s2
 simp only [FR.Tm.var,FR.Tm.name,FR.Tm.args,SL.v] at he h1 h4
 cases he
 exact one_term (s:=⟨aa,an,ac⟩) h4 (h1.turn fun k hk => ⟨hk.2,rfl⟩) h (HK.blk_lt h)
set_option maxRecDepth 100000 in
set_option maxHeartbeats 2000000 in
theorem termA_bad (w:World) (s:ByteArray) (hs:s.size <= 16384) (hG:Signs w) (hV:IsLv w) {p:Nat} {e:Int} (h:RdT false (bys s) (.bad p e)):Calls Tryz.prog 14 #[.string s] w (RetTm w (.bad p e)):=by
 have he:=(rdT_bad (l:=bys s) hs h rfl).1
 have hc:=fun (W:World) (hB:Below w.heap.size w W) => read39 W s false hs (hG.below hB) (hV.turn (hB.block 0 hV.pos)) h
 unfold RetTm at hc ⊢
 simp only [] at hc ⊢
 have he1:(e != 0) = true:=by simp [he]
 have HC:=hid hc
 clear hc hG hV hs h he
 go_enter Tryz.func14,Tryz.ntmps14
 go_wp2_with (fail)
 go_at_call 30
 with_reducible refine (HC.out _ ((Below.refl _ w).alloc (Nat.le_refl _) _)).mono ?_
 rintro E w1 ⟨hB1,rfl⟩
 have hk:=(hB1.block w.heap.size (by simp)).trans (HK.blk_new w (.cells #[.bool false,.string ⟨#[]⟩,.slice none 0 0] 36))
 have c0:=HK.blk_cell hk 0
 have c1:=HK.blk_cell hk 1
 have c2:=HK.blk_cell hk 2
 have f0:=HK.blk_frozen hk 0
 have f1:=HK.blk_frozen hk 1
 have f2:=HK.blk_frozen hk 2
 have hB:Below w.heap.size w w1:=((Below.refl _ w).alloc (Nat.le_refl _) (.cells #[.bool false,.string ⟨#[]⟩,.slice none 0 0] 36)).trans (hB1.mono (by simp))
 have hlt:=HK.blk_lt hk
 have hne:¬ w1.heap.size = w.heap.size:=by omega
 have HK0:=hid hk
 have HB:=hid hB
 clear hB1 hk hB
 go_wp2_with (fail)
 refine bodyPost_ret (results_c1t2 (p:=2) (u:=3) (v:=4) (ty:=36) (by kernel_rfl) _ _ w.heap.size 36 _ (0,0) _ _ _ rfl rfl rfl (HK.blk_alloc (pset3 HK0.out _ _ _) _) Tryz.underlying36 rfl (by kernel_rfl)) rfl ?_
 exact ⟨(((HB.out.setCell (p:=⟨w.heap.size,0,none⟩) (Nat.le_refl _) _).setCell (p:=⟨w.heap.size,1,none⟩) (Nat.le_refl _) _).setCell (p:=⟨w.heap.size,2,none⟩) (Nat.le_refl _) _).alloc (by simp; exact HB.out.size) _,rfl⟩
set_option maxRecDepth 100000 in
set_option maxHeartbeats 4000000 in
theorem termA_ok (w:World) (s:ByteArray) (hs:s.size <= 16384) (hG:Signs w) (hV:IsLv w) {f:Tm} (h:RdT false (bys s) (.ok f)):Calls Tryz.prog 14 #[.string s] w (RetTm w (termA (.ok f))):=by
 obtain ⟨_,_,_,_,_,_,_,hN⟩:=rdT_ok (l:=bys s) hs h rfl
 have hc:=fun (W:World) (hB:Below w.heap.size w W) => (read39 W s false hs (hG.below hB) (hV.turn (hB.block 0 hV.pos)) h).mono (R':=fun E W' => Below W.heap.size W W' /\ ∃ (o8:Bool) (nm:ByteArray) (aa:Option Addr) (an ac:Nat),E = .returned (.tuple #[.agg #[.bool o8,.string nm,.slice aa an ac],.int .i64 0,.int .i64 0]) /\ TmV W' W.heap.size f (.agg #[.bool o8,.string nm,.slice aa an ac])) fun E W' ⟨hB,v,he,hv⟩ => by
  subst he
  have hv0:=hv
  obtain ⟨a,rfl,_⟩:=hv
  obtain ⟨aa,an,ac⟩:=a
  exact ⟨hB,_,_,_,_,_,rfl,hv0⟩
 have hj:=fun (W:World) (lo:Nat) (v:Value) (hv:TmV W lo f v) => termr_v hv (show nodesT f <= 900000 by omega)
 have hnd:=fun (W:World) (sv:SL) (hv:IsTs (SN W) W sv [f]) => nodes_call W sv [f] hv (by simp only [nodesTs]; omega)
 have hdp:=fun (W:World) (sv:SL) (hv:IsTs (SN W) W sv [f]) => depth_call W sv [f] hv (by simp only [nodesTs]; omega)
 have hdn:=depth_leT f
 simp only [nodesTs,depthTs,Nat.add_zero,Nat.max_zero] at hnd hdp
 unfold termA
 simp only []
 unfold RetW at hj
 obtain ⟨b,hb⟩:∃ b,b = rightT f:=⟨_,rfl⟩
 obtain ⟨N,hNf⟩:∃ N,N = nodesT f:=⟨_,rfl⟩
 obtain ⟨D,hDf⟩:∃ D,D = depthT f:=⟨_,rfl⟩
 rw [<- hb] at hj ⊢
 rw [<- hNf] at hnd hN hdn ⊢
 rw [<- hDf] at hdp hdn ⊢
 obtain ⟨rr,hrr⟩:∃ rr,rr = (if b = true /\ N <= 400 /\ D <= 40 then An.ok f else .bad 0 3):=⟨_,rfl⟩
 rw [<- hrr]
 have HRR:=hid hrr
 have hw1:wrap64 (((1 + N:Nat):Int) - 1) = (N:Int):=by rw [IntWalk.wrap64_in _ (by omega)]; omega
 have hw2:wrap64 ((D:Int) + 1 - 1) = (D:Int):=by rw [IntWalk.wrap64_in _ (by omega)]; omega
 have hw3:wrap64 (D:Int) = (D:Int):=IntWalk.wrap64_in _ (by omega)
 obtain ⟨T,hT⟩:∃ T,T = 1 + N:=⟨_,rfl⟩
 rw [<- hT] at hw1 hnd
 obtain ⟨n4,hn4⟩:∃ n4,decide ((400:Int) < (N:Int)) = n4:=⟨_,rfl⟩
 obtain ⟨d4,hd4⟩:∃ d4,decide ((40:Int) < (D:Int)) = d4:=⟨_,rfl⟩
 have HN4:=hid hn4
 have HD4:=hid hd4
 have HC:=hid hc
 have HJ:=hid hj
 have HND:=hid hnd
 have HDP:=hid hdp
 clear hc hj hG hV hs h hN hb hrr hnd hdp hdn hNf hDf hT
 go_enter Tryz.func14,Tryz.ntmps14
 go_wp2_with (fail)
 go_at_call 30
 with_reducible refine (HC.out _ ((Below.refl _ w).alloc (Nat.le_refl _) _)).mono ?_
 rintro E w1 ⟨hB1,o8,nm,aa,an,ac,rfl,hv⟩
 have hk:=(hB1.block w.heap.size (by simp)).trans (HK.blk_new w (.cells #[.bool false,.string ⟨#[]⟩,.slice none 0 0] 36))
 have hB:Below w.heap.size w w1:=((Below.refl _ w).alloc (Nat.le_refl _) (.cells #[.bool false,.string ⟨#[]⟩,.slice none 0 0] 36)).trans (hB1.mono (by simp))
 have hlt:=HK.blk_lt hk
 have hv1:=(hv.turn (lo':=w.heap.size + 1) ⟨by simp,Nat.le_refl _,fun _ _ _ => rfl⟩)
 have HK0:=hid hk
 have HB:=hid hB
 have HV:=hid hv1
 have HLT:=hid hlt
 clear hB1 hk hB hv hv1
 go_wp2_with (fail)
 have hn3:=three_new w1 (.cells #[.bool o8,.string nm,.slice aa an ac] 36) (.cells #[.bool o8,.string nm,.slice aa an ac] 36) (.cells #[.int .u8 0,.string ⟨#[]⟩,.slice (some ⟨w1.heap.size + 1,0,none⟩) 1 1,.slice none 0 0] 28)
 have hk0:=HK.blk_alloc (HK.blk_alloc (HK.blk_alloc HK0.out (.cells #[.bool o8,.string nm,.slice aa an ac] 36)) (.cells #[.bool o8,.string nm,.slice aa an ac] 36)) (.cells #[.int .u8 0,.string ⟨#[]⟩,.slice (some ⟨w1.heap.size + 1,0,none⟩) 1 1,.slice none 0 0] 28)
 have hB3:=((HB.out.alloc HB.out.size (.cells #[.bool o8,.string nm,.slice aa an ac] 36)).alloc (by simp; have:=HB.out.size; omega) (.cells #[.bool o8,.string nm,.slice aa an ac] 36)).alloc (by simp; have:=HB.out.size; omega) (.cells #[.int .u8 0,.string ⟨#[]⟩,.slice (some ⟨w1.heap.size + 1,0,none⟩) 1 1,.slice none 0 0] 28)
 have hv3:=HV.out.turn (lo':=w.heap.size + 1) (((((⟨Nat.le_refl _,Nat.le_refl _,fun _ _ _ => rfl⟩:Up (w.heap.size + 1) (w.heap.size + 1) w1 w1).alloc (.cells #[.bool o8,.string nm,.slice aa an ac] 36)).alloc (.cells #[.bool o8,.string nm,.slice aa an ac] 36)).alloc (.cells #[.int .u8 0,.string ⟨#[]⟩,.slice (some ⟨w1.heap.size + 1,0,none⟩) 1 1,.slice none 0 0] 28)))
 obtain ⟨w3,hw3'⟩:∃ w3,w3 = (((w1.alloc (.cells #[.bool o8,.string nm,.slice aa an ac] 36)).alloc (.cells #[.bool o8,.string nm,.slice aa an ac] 36)).alloc (.cells #[.int .u8 0,.string ⟨#[]⟩,.slice (some ⟨w1.heap.size + 1,0,none⟩) 1 1,.slice none 0 0] 28)):=⟨_,rfl⟩
 rw [<- hw3'] at hn3 hk0 hB3 hv3 ⊢
 have hrow:=one_v hv3 hn3.2.1
 have K0:=hid hk0
 have K5:=hid hn3.1
 have K8:=hid hn3.2.2
 have HB3:=hid hB3
 have HV3:=hid hv3
 have HROW:=hid hrow
 clear hn3 hk0 hB3 hv3 hw3' hrow
 go_at_call 32
 with_reducible refine (HJ.out _ _ _ HV3.out).mono ?_
 rintro E w4 ⟨rfl,hB4⟩
 have hk0:=(hB4.block _ (HK.blk_lt K0.out)).trans K0.out
 have hk5:=(hB4.block _ (HK.blk_lt K5.out)).trans K5.out
 have hk8:=(hB4.block _ (HK.blk_lt K8.out)).trans K8.out
 have c0:=HK.blk_cell hk0 0
 have f0:=HK.blk_frozen hk0 0
 have d0:=HK.blk_cell hk5 0
 have c1:=HK.blk_cell hk0 1
 have f1:=HK.blk_frozen hk0 1
 have d1:=HK.blk_cell hk5 1
 have c2:=HK.blk_cell hk0 2
 have f2:=HK.blk_frozen hk0 2
 have d2:=HK.blk_cell hk5 2
 have g0:=HK.blk_cell hk8 0
 have g1:=HK.blk_cell hk8 1
 have g2:=HK.blk_cell hk8 2
 have g3:=HK.blk_cell hk8 3
 have J0:=hid hk0
 have HBX:=hid (HB3.out.trans (hB4.mono HB3.out.size))
 have HB4:=hid hB4
 clear hk0 hk5 hk8 hB4
 cases b
 ·go_wp2_with (fail)
  refine bodyPost_ret (results_c1t2 (p:=2) (u:=3) (v:=4) (ty:=36) (by kernel_rfl) _ _ w.heap.size 36 _ (0,0) _ _ _ rfl rfl rfl (pset3 J0.out _ _ _) Tryz.underlying36 rfl (by kernel_rfl)) rfl ?_
  rw [show rr = .bad 0 3 by rw [HRR.out]; exact if_neg (fun h => by cases h.1)]
  exact ⟨((HBX.out.setCell (p:=⟨w.heap.size,0,none⟩) (Nat.le_refl _) _).setCell (p:=⟨w.heap.size,1,none⟩) (Nat.le_refl _) _).setCell (p:=⟨w.heap.size,2,none⟩) (Nat.le_refl _) _,rfl⟩
 ·go_wp2_with (fail)
  go_at_call 33
  have hc5:=HND.out w4 ⟨some ⟨w1.heap.size + 1,0,none⟩,1,1⟩ (HROW.out.turn (sn_up HB4.out))
  simp only [SL.v] at hc5
  with_reducible refine hc5.mono ?_
  clear hc5 c0 c1 c2 f0 f1 f2 d0 d1 d2 g0 g1 g2 g3 J0 HBX
  rintro E w5 ⟨rfl,hB5'⟩
  have hB5:=HB4.out.trans (hB5'.mono HB4.out.size)
  have hk0:=(hB5.block _ (HK.blk_lt K0.out)).trans K0.out
  have hk5:=(hB5.block _ (HK.blk_lt K5.out)).trans K5.out
  have hk8:=(hB5.block _ (HK.blk_lt K8.out)).trans K8.out
  have c0:=HK.blk_cell hk0 0
  have f0:=HK.blk_frozen hk0 0
  have d0:=HK.blk_cell hk5 0
  have c1:=HK.blk_cell hk0 1
  have f1:=HK.blk_frozen hk0 1
  have d1:=HK.blk_cell hk5 1
  have c2:=HK.blk_cell hk0 2
  have f2:=HK.blk_frozen hk0 2
  have d2:=HK.blk_cell hk5 2
  have g0:=HK.blk_cell hk8 0
  have g1:=HK.blk_cell hk8 1
  have g2:=HK.blk_cell hk8 2
  have g3:=HK.blk_cell hk8 3
  have J0:=hid hk0
  have HBX:=hid (HB3.out.trans (hB5.mono HB3.out.size))
  have HB5:=hid hB5
  clear hk0 hk5 hk8 hB5 hB5'
  cases n4
  ·go_wp2_with (fail)
   go_at_call 34
   have hc6:=HDP.out w5 ⟨some ⟨w1.heap.size + 1,0,none⟩,1,1⟩ (HROW.out.turn (sn_up HB5.out))
   simp only [SL.v] at hc6
   with_reducible refine hc6.mono ?_
   clear hc6 c0 c1 c2 f0 f1 f2 d0 d1 d2 g0 g1 g2 g3 J0 HBX
   rintro E w6 ⟨rfl,hB6'⟩
   have hB6:=HB5.out.trans (hB6'.mono HB5.out.size)
   have hk0:=(hB6.block _ (HK.blk_lt K0.out)).trans K0.out
   have hk5:=(hB6.block _ (HK.blk_lt K5.out)).trans K5.out
   have hk8:=(hB6.block _ (HK.blk_lt K8.out)).trans K8.out
   have c0:=HK.blk_cell hk0 0
   have f0:=HK.blk_frozen hk0 0
   have d0:=HK.blk_cell hk5 0
   have c1:=HK.blk_cell hk0 1
   have f1:=HK.blk_frozen hk0 1
   have d1:=HK.blk_cell hk5 1
   have c2:=HK.blk_cell hk0 2
   have f2:=HK.blk_frozen hk0 2
   have d2:=HK.blk_cell hk5 2
   have g0:=HK.blk_cell hk8 0
   have g1:=HK.blk_cell hk8 1
   have g2:=HK.blk_cell hk8 2
   have g3:=HK.blk_cell hk8 3
   have J0:=hid hk0
   have HBX:=hid (HB3.out.trans (hB6.mono HB3.out.size))
   have HB6:=hid hB6
   clear hk0 hk5 hk8 hB6 hB6'
   cases d4
   ·go_wp2_with (fail)
    refine bodyPost_ret (results_c1t2 (p:=2) (u:=3) (v:=4) (ty:=36) (by kernel_rfl) _ _ w.heap.size 36 _ (0,0) _ _ _ rfl rfl rfl (pset3 J0.out _ _ _) Tryz.underlying36 rfl (by kernel_rfl)) rfl ?_
    rw [show rr = .ok f by rw [HRR.out]; exact if_pos ⟨by trivial,by have:=of_decide_eq_false HN4.out; omega,by have:=of_decide_eq_false HD4.out; omega⟩]
    refine ⟨((HBX.out.setCell (p:=⟨w.heap.size,0,none⟩) (Nat.le_refl _) _).setCell (p:=⟨w.heap.size,1,none⟩) (Nat.le_refl _) _).setCell (p:=⟨w.heap.size,2,none⟩) (Nat.le_refl _) _,_,rfl,?_⟩
    exact HV3.out.turn ((((((⟨Nat.le_succ _,Nat.le_refl _,fun _ _ _ => rfl⟩:Up (w.heap.size + 1) w.heap.size w3 w3).below HB6.out).set (a:=⟨w.heap.size,0,none⟩) (Nat.lt_succ_self _) _).set (a:=⟨w.heap.size,1,none⟩) (Nat.lt_succ_self _) _).set (a:=⟨w.heap.size,2,none⟩) (Nat.lt_succ_self _) _))
   ·go_wp2_with (fail)
    refine bodyPost_ret (results_c1t2 (p:=2) (u:=3) (v:=4) (ty:=36) (by kernel_rfl) _ _ w.heap.size 36 _ (0,0) _ _ _ rfl rfl rfl (pset3 J0.out _ _ _) Tryz.underlying36 rfl (by kernel_rfl)) rfl ?_
    rw [show rr = .bad 0 3 by rw [HRR.out]; exact if_neg (fun h => by have:=of_decide_eq_true HD4.out; omega)]
    exact ⟨((HBX.out.setCell (p:=⟨w.heap.size,0,none⟩) (Nat.le_refl _) _).setCell (p:=⟨w.heap.size,1,none⟩) (Nat.le_refl _) _).setCell (p:=⟨w.heap.size,2,none⟩) (Nat.le_refl _) _,rfl⟩
  ·go_wp2_with (fail)
   refine bodyPost_ret (results_c1t2 (p:=2) (u:=3) (v:=4) (ty:=36) (by kernel_rfl) _ _ w.heap.size 36 _ (0,0) _ _ _ rfl rfl rfl (pset3 J0.out _ _ _) Tryz.underlying36 rfl (by kernel_rfl)) rfl ?_
   rw [show rr = .bad 0 3 by rw [HRR.out]; exact if_neg (fun h => by have:=of_decide_eq_true HN4.out; omega)]
   exact ⟨((HBX.out.setCell (p:=⟨w.heap.size,0,none⟩) (Nat.le_refl _) _).setCell (p:=⟨w.heap.size,1,none⟩) (Nat.le_refl _) _).setCell (p:=⟨w.heap.size,2,none⟩) (Nat.le_refl _) _,rfl⟩
theorem term_call (w:World) (s:ByteArray) (hs:s.size <= 16384) (hG:Signs w) (hV:IsLv w) {r:An Tm} (h:RdT false (bys s) r):Calls Tryz.prog 14 #[.string s] w (RetTm w (termA r)):=by
 cases r with
 | ok f => exact termA_ok w s hs hG hV h
 | bad p e => exact termA_bad w s hs hG hV h
end Go.Proofs.YtdobflpbkfkmgaaGreatDoor
