import Derived.Test.YtdobflpbkfkmgaaGreatDoorR2c
namespace Go.Proofs.YtdobflpbkfkmgaaGreatDoor
open Go.RowKit Go.HK Go.FR Lib
set_option linter.unusedVariables false
set_option linter.unusedSimpArgs false
set_option linter.unusedSectionVars false
def RowsOk (f:Fm):Prop:=∀ (w:World) (a s:SL) (b:Bool),IsTs (SN w) w a f.args -> IsFs (SN w) w s f.subs -> f.name.size <= maxLen -> nodesF f <= 1000000 -> Calls Tryz.prog 77 #[.agg #[.int .u8 (f.op:Int),.string f.name,a.v,s.v],.bool b] w (RetW w (rF b f))
set_option maxRecDepth 100000 in
set_option maxHeartbeats 4000000 in
theorem rows_of (op:Nat) (nm:ByteArray) (args:List Tm) (subs:List Fm) (IH:∀ f ∈ subs,RowsOk f):RowsOk (.mk op nm args subs):=by
 intro w a s b ha hs hz hN
 simp only [FR.Fm.op,FR.Fm.name,FR.Fm.args,FR.Fm.subs] at ha hs hz ⊢
 have hN2:1 + nodesTs args + nodesL subs <= 1000000:=by unfold nodesF at hN; exact hN
 have hlen:=hs.len
 have hlena:=ha.len
 obtain ⟨aa,an,ac⟩:=a
 obtain ⟨sa,sn,sc⟩:=s
 simp only at hlen hlena
 simp only [SL.v]
 have hsn:sn <= 1000000:=by have:=nodesL_len subs; omega
 have han:an <= 1000000:=by have:=nodesTs_len args; omega
 obtain ⟨R,hR⟩:∃ R,R = rF b (.mk op nm args subs):=⟨_,rfl⟩
 rw [<- hR]
 have hbx:=bl_al9 (W:=w) (.cells #[.int .u8 (op:Int),.string nm,.slice aa an ac,.slice sa sn sc] 28)
 have hrw:=row_call (w.alloc (.cells #[.int .u8 (op:Int),.string nm,.slice aa an ac,.slice sa sn sc] 28)) op nm args subs b aa sa an ac sn sc (ha.turn (sn_up hbx)) hlen hz
 obtain ⟨q,hq⟩:∃ q,q = rowB b op nm args subs:=⟨_,rfl⟩
 rw [<- hq] at hrw
 unfold RetW at hrw
 have HRW:=hid hrw
 unfold rF at hR
 rw [<- hq] at hR
 have HR:=hid hR
 have HLEN:=hid hlen
 have HLENA:=hid hlena
 have HS:=hid hs
 have HTA:=hid ha
 have HIH:=hid IH
 have HN:=hid hN2
 have hk:=HK.blk_new w (.cells #[.int .u8 (op:Int),.string nm,.slice aa an ac,.slice sa sn sc] 28)
 have HK0:=hid hk
 have HB0:=hid hbx
 have z0:=HK.blk_cell hk 0
 have z1:=HK.blk_cell hk 1
 have z2:=HK.blk_cell hk 2
 have z3:=HK.blk_cell hk 3
 clear hR hlen hlena hs IH hN hN2 ha hrw hq hbx hz hk
 go_enter Tryz.func77,Tryz.ntmps77
 go_wp2_with (fail)
 go_at_call 106
 with_reducible refine HRW.out.mono ?_
 rintro _ w1 ⟨rfl,hB1⟩
 have HB1:=hid (HB0.out.trans (hB1.mono HB0.out.size))
 have hk:=(hB1.block _ (HK.blk_lt HK0.out)).trans HK0.out
 have HK1:=hid hk
 clear z0 z1 z2 z3
 have z0:=HK.blk_cell hk 0
 have z1:=HK.blk_cell hk 1
 have z2:=HK.blk_cell hk 2
 have z3:=HK.blk_cell hk 3
 clear hB1 hk
 rcases q with _ | _
 case false =>
  have HR2:Hid (R = false):=hid (by rw [HR.out]; simp)
  go_wp2_with (fail)
  go_ret
  exact ⟨by rw [HR2.out]; rfl,HB1.out⟩
 go_wp2_with (fail)
 go_loopw [5] (fun i wr => ∃ j:Nat,j <= an /\ i = .int .i64 j /\ Below w1.heap.size w1 wr /\ rTs b (args.take j) = true) (fun i _ => an - (intOf i).toNat)
 case atStart => exact ⟨0,by omega,rfl,Below.refl _ _,rfl⟩
 case round =>
  obtain ⟨j,hj,rfl,hB,hall⟩:=hrel
  have HALL:=hid hall
  have HB:=hid hB
  have HBW:=hid (HB1.out.trans (hB.mono HB1.out.size))
  have hk:=(hB.block _ (HK.blk_lt HK1.out)).trans HK1.out
  clear hall z0 z1 z2 z3
  have z0:=HK.blk_cell hk 0
  have z1:=HK.blk_cell hk 1
  have z2:=HK.blk_cell hk 2
  have z3:=HK.blk_cell hk 3
  clear hk
  by_cases hjn:(j:Int) < (an:Int)
  ·have b0:(0:Int) <= (j:Int):=by omega
   obtain ⟨q,hq⟩:∃ q,args[j]? = some q:=⟨_,List.getElem?_eq_getElem (by rw [<- HLENA.out]; omega)⟩
   have hp:=HTA.out.turn (sn_up HBW.out)
   obtain ⟨g1,o1,hga⟩:=ts_any HTA.out hq
   subst hga
   obtain ⟨u,c0,c1,c2,hu,hz⟩:=ts_at hp hq
   have hqn:nodesT q <= nodesTs args:=by
    have h1:=nodesTs_take hq
    have h2:=nodesTs_take_le args (j + 1)
    omega
   have hcq:=rterm_t q wr u b hu hz (by have:=HN.out; omega)
   obtain ⟨k,hkq⟩:∃ k,k = rT b q:=⟨_,rfl⟩
   rw [<- hkq] at hcq
   have HQ:=hid hq
   have HKQ:=hid hkq
   have HC:=hid hcq
   clear hcq hq hp hu hz hqn hkq hB
   obtain ⟨qv,qn,qa⟩:=q
   obtain ⟨ua,un,uc⟩:=u
   simp only [FR.Tm.var,FR.Tm.name,SL.v] at c0 c1 c2 HC
   unfold RetW at HC
   go_wp2_with (fail)
   go_at_call 70
   with_reducible refine HC.out.mono ?_
   rintro _ w2 ⟨rfl,hB2⟩
   have HB2:=hid (HB.out.trans (hB2.mono HB.out.size))
   clear hB2 c0 c1 c2
   rcases k with _ | _
   ·have HR3:Hid (R = false):=hid (by rw [HR.out,rTs_mem (List.mem_of_getElem? HQ.out) HKQ.out.symm]; simp)
    go_wp2_with (fail)
    go_ret
    exact ⟨by rw [HR3.out]; rfl,HB1.out.trans (HB2.out.mono HB1.out.size)⟩
   ·go_wp2_with (fail)
    go_roundw
    case rel => exact ⟨j + 1,by omega,by go_num,HB2.out,by rw [rTs_take HQ.out,HALL.out,<- HKQ.out]; rfl⟩
    case measure => simp [intOf]; omega
  ·have hall:rTs b args = true:=by have h:=HALL.out; rw [show j = args.length by rw [<- HLENA.out]; omega,List.take_length] at h; exact h
   have HR3:Hid (R = rFs b subs):=hid (by rw [HR.out,hall]; rfl)
   have HKR:=hid ((hB.block _ (HK.blk_lt HK1.out)).trans HK1.out)
   clear hall hB
   obtain ⟨w3,hw3⟩:∃ x:World,x = wr:=⟨_,rfl⟩
   subst hw3
   go_wp2_with (fail)
   go_loopw [6] (fun i wr => ∃ j:Nat,j <= sn /\ i = .int .i64 j /\ Below w3.heap.size w3 wr /\ rFs b (subs.take j) = true) (fun i _ => sn - (intOf i).toNat)
   case atStart => exact ⟨0,by omega,rfl,Below.refl _ _,rfl⟩
   case round =>
    obtain ⟨j2,hj2,rfl,hB,hall⟩:=hrel
    have HALL2:=hid hall
    have HBx:=hid hB
    have HBW2:=hid (HBW.out.trans (hB.mono HBW.out.size))
    have hk:=(hB.block _ (HK.blk_lt HKR.out)).trans HKR.out
    clear hall z0 z1 z2 z3
    have z0:=HK.blk_cell hk 0
    have z1:=HK.blk_cell hk 1
    have z2:=HK.blk_cell hk 2
    have z3:=HK.blk_cell hk 3
    clear hk
    by_cases hjn2:(j2:Int) < (sn:Int)
    ·have b02:(0:Int) <= (j2:Int):=by omega
     obtain ⟨q,hq⟩:∃ q,subs[j2]? = some q:=⟨_,List.getElem?_eq_getElem (by rw [<- HLEN.out]; omega)⟩
     have hp:=HS.out.turn (sn_up HBW2.out)
     obtain ⟨g1,o1,hga⟩:=fs_any HS.out hq
     subst hga
     obtain ⟨u,d,c0,c1,c2,c3,hu,hd,ho,hz⟩:=fs_at hp hq
     have hqn:nodesF q <= nodesL subs:=mem_nodesF (List.mem_of_getElem? hq)
     have hcq:=HIH.out q (List.mem_of_getElem? hq) wr u d b hu hd hz (by have:=HN.out; omega)
     obtain ⟨k,hkq⟩:∃ k,k = rF b q:=⟨_,rfl⟩
     rw [<- hkq] at hcq
     have HQ:=hid hq
     have HKQ:=hid hkq
     have HC:=hid hcq
     clear hcq hq hp hu hd ho hz hqn hkq hB
     obtain ⟨qo,qn,qa,qs⟩:=q
     obtain ⟨ua,un,uc⟩:=u
     obtain ⟨da,dn,dc⟩:=d
     simp only [FR.Fm.op,FR.Fm.name,SL.v] at c0 c1 c2 c3 HC
     unfold RetW at HC
     go_wp2_with (fail)
     go_at_call 77
     with_reducible refine HC.out.mono ?_
     rintro _ w2 ⟨rfl,hB2⟩
     have HB2:=hid (HBx.out.trans (hB2.mono HBx.out.size))
     clear hB2 c0 c1 c2 c3
     rcases k with _ | _
     ·have HR4:Hid (R = false):=hid (by rw [HR3.out,rFs_mem (List.mem_of_getElem? HQ.out) HKQ.out.symm])
      go_wp2_with (fail)
      go_ret
      exact ⟨by rw [HR4.out]; rfl,HBW.out.trans (HB2.out.mono HBW.out.size)⟩
     ·go_wp2_with (fail)
      go_roundw
      case rel => exact ⟨j2 + 1,by omega,by go_num,HB2.out,by rw [rFs_take HQ.out,HALL2.out,<- HKQ.out]; rfl⟩
      case measure => simp [intOf]; omega
    ·have hall:rFs b subs = true:=by have h:=HALL2.out; rw [show j2 = subs.length by rw [<- HLEN.out]; omega,List.take_length] at h; exact h
     have HR4:Hid (R = true):=hid (by rw [HR3.out,hall])
     clear hall hB
     go_wp2_with (fail)
     go_ret
     exact ⟨by rw [HR4.out]; rfl,HBW2.out⟩
mutual
theorem rows_t:∀ t:Fm,RowsOk t
 | .mk op nm args subs => rows_of op nm args subs (rows_l subs)
theorem rows_l:∀ l:List Fm,∀ t ∈ l,RowsOk t
 | [],t,h => by cases h
 | u :: r,t,h => by
  rcases List.mem_cons.1 h with h | h
  ·rw [h]; exact rows_t u
  ·exact rows_l r t h
end
set_option maxRecDepth 100000 in
set_option maxHeartbeats 2000000 in
theorem rright_call (w:World) (f:Fm) (a s:SL) (ha:IsTs (SN w) w a f.args) (hs:IsFs (SN w) w s f.subs) (hz:f.name.size <= maxLen) (hN:nodesF f <= 1000000):Calls Tryz.prog 45 #[.agg #[.int .u8 (f.op:Int),.string f.name,a.v,s.v]] w (RetW w (rightF f)):=by
 have e:rightF f = (rF false f && decide ((nodesF f:Int) <= 400) && decide ((depthF f:Int) <= 40)):=sch_rF false f
 rw [e]
 have h1:=fun (W:World) (hB:Below w.heap.size w W) => rows_t f W a s false (ha.turn (sn_up hB)) (hs.turn (sn_up hB)) hz hN
 have h2:=fun (W:World) (hB:Below w.heap.size w W) => rnodes_t f W a s (ha.turn (sn_up hB)) (hs.turn (sn_up hB)) hN
 have h3:=fun (W:World) (hB:Below w.heap.size w W) => rdepth_t f W a s (ha.turn (sn_up hB)) (hs.turn (sn_up hB)) hN
 obtain ⟨q,hq⟩:∃ q,q = rF false f:=⟨_,rfl⟩
 obtain ⟨n,hn⟩:∃ q,q = nodesF f:=⟨_,rfl⟩
 obtain ⟨d,hd⟩:∃ q,q = depthF f:=⟨_,rfl⟩
 rw [<- hq] at h1 ⊢
 rw [<- hn] at h2 ⊢
 rw [<- hd] at h3 ⊢
 unfold RetW at h1
 unfold RetNn at h2 h3
 obtain ⟨op,nm,args,subs⟩:=f
 obtain ⟨aa,an,ac⟩:=a
 obtain ⟨sa,sn,sc⟩:=s
 simp only [FR.Fm.op,FR.Fm.name,SL.v] at h1 h2 h3 ⊢
 have H1:=hid h1
 have H2:=hid h2
 have H3:=hid h3
 have HB0:=hid (bl_al9 (W:=w) (.cells #[.int .u8 (op:Int),.string nm,.slice aa an ac,.slice sa sn sc] 28))
 have hk:=HK.blk_new w (.cells #[.int .u8 (op:Int),.string nm,.slice aa an ac,.slice sa sn sc] 28)
 have HK0:=hid hk
 have z0:=HK.blk_cell hk 0
 have z1:=HK.blk_cell hk 1
 have z2:=HK.blk_cell hk 2
 have z3:=HK.blk_cell hk 3
 clear h1 h2 h3 hq hn hd e ha hs hz hN hk
 go_enter Tryz.func45,Tryz.ntmps45
 go_wp2_with (fail)
 go_at_call 77
 with_reducible refine (H1.out _ HB0.out).mono ?_
 rintro _ w1 ⟨rfl,hB⟩
 have HB1:=hid (HB0.out.trans (hB.mono HB0.out.size))
 have hk:=(hB.block _ (HK.blk_lt HK0.out)).trans HK0.out
 have HK1:=hid hk
 clear z0 z1 z2 z3
 have z0:=HK.blk_cell hk 0
 have z1:=HK.blk_cell hk 1
 have z2:=HK.blk_cell hk 2
 have z3:=HK.blk_cell hk 3
 clear hB hk
 rcases q with _ | _
 ·go_wp2_with (fail)
  go_ret
  exact ⟨rfl,HB1.out⟩
 go_wp2_with (fail)
 go_at_call 39
 with_reducible refine (H2.out _ HB1.out).mono ?_
 rintro _ w2 ⟨rfl,hB⟩
 have HB2:=hid (HB1.out.trans (hB.mono HB1.out.size))
 have hk:=(hB.block _ (HK.blk_lt HK1.out)).trans HK1.out
 clear z0 z1 z2 z3
 have z0:=HK.blk_cell hk 0
 have z1:=HK.blk_cell hk 1
 have z2:=HK.blk_cell hk 2
 have z3:=HK.blk_cell hk 3
 clear hB hk
 by_cases hn:(n:Int) <= 400
 ·have hn2:=hid hn
  go_wp2_with (fail)
  go_at_call 40
  with_reducible refine (H3.out _ HB2.out).mono ?_
  rintro _ w3 ⟨rfl,hB⟩
  have HB3:=hid (HB2.out.trans (hB.mono HB2.out.size))
  clear hB
  go_wp2_with (fail)
  go_ret
  exact ⟨by rw [decide_eq_true hn2.out]; rfl,HB3.out⟩
 ·have hn2:=hid (show ¬ (n:Int) <= 400 from hn)
  go_wp2_with (fail)
  go_ret
  exact ⟨by rw [decide_eq_false (by have:=hn2.out; omega)]; rfl,HB2.out⟩
set_option maxRecDepth 100000 in
set_option maxHeartbeats 2000000 in
theorem rschema_call (w:World) (f:Fm) (a s:SL) (ha:IsTs (SN w) w a f.args) (hs:IsFs (SN w) w s f.subs) (hz:f.name.size <= maxLen) (hN:nodesF f <= 1000000):Calls Tryz.prog 52 #[.agg #[.int .u8 (f.op:Int),.string f.name,a.v,s.v]] w (RetW w (schF f)):=by
 have e:schF f = (rF true f && decide ((nodesF f:Int) <= 400) && decide ((depthF f:Int) <= 40)):=sch_rF true f
 rw [e]
 have h1:=fun (W:World) (hB:Below w.heap.size w W) => rows_t f W a s true (ha.turn (sn_up hB)) (hs.turn (sn_up hB)) hz hN
 have h2:=fun (W:World) (hB:Below w.heap.size w W) => rnodes_t f W a s (ha.turn (sn_up hB)) (hs.turn (sn_up hB)) hN
 have h3:=fun (W:World) (hB:Below w.heap.size w W) => rdepth_t f W a s (ha.turn (sn_up hB)) (hs.turn (sn_up hB)) hN
 obtain ⟨q,hq⟩:∃ q,q = rF true f:=⟨_,rfl⟩
 obtain ⟨n,hn⟩:∃ q,q = nodesF f:=⟨_,rfl⟩
 obtain ⟨d,hd⟩:∃ q,q = depthF f:=⟨_,rfl⟩
 rw [<- hq] at h1 ⊢
 rw [<- hn] at h2 ⊢
 rw [<- hd] at h3 ⊢
 unfold RetW at h1
 unfold RetNn at h2 h3
 obtain ⟨op,nm,args,subs⟩:=f
 obtain ⟨aa,an,ac⟩:=a
 obtain ⟨sa,sn,sc⟩:=s
 simp only [FR.Fm.op,FR.Fm.name,SL.v] at h1 h2 h3 ⊢
 have H1:=hid h1
 have H2:=hid h2
 have H3:=hid h3
 have HB0:=hid (bl_al9 (W:=w) (.cells #[.int .u8 (op:Int),.string nm,.slice aa an ac,.slice sa sn sc] 28))
 have hk:=HK.blk_new w (.cells #[.int .u8 (op:Int),.string nm,.slice aa an ac,.slice sa sn sc] 28)
 have HK0:=hid hk
 have z0:=HK.blk_cell hk 0
 have z1:=HK.blk_cell hk 1
 have z2:=HK.blk_cell hk 2
 have z3:=HK.blk_cell hk 3
 clear h1 h2 h3 hq hn hd e ha hs hz hN hk
 go_enter Tryz.func52,Tryz.ntmps52
 go_wp2_with (fail)
 go_at_call 77
 with_reducible refine (H1.out _ HB0.out).mono ?_
 rintro _ w1 ⟨rfl,hB⟩
 have HB1:=hid (HB0.out.trans (hB.mono HB0.out.size))
 have hk:=(hB.block _ (HK.blk_lt HK0.out)).trans HK0.out
 have HK1:=hid hk
 clear z0 z1 z2 z3
 have z0:=HK.blk_cell hk 0
 have z1:=HK.blk_cell hk 1
 have z2:=HK.blk_cell hk 2
 have z3:=HK.blk_cell hk 3
 clear hB hk
 rcases q with _ | _
 ·go_wp2_with (fail)
  go_ret
  exact ⟨rfl,HB1.out⟩
 go_wp2_with (fail)
 go_at_call 39
 with_reducible refine (H2.out _ HB1.out).mono ?_
 rintro _ w2 ⟨rfl,hB⟩
 have HB2:=hid (HB1.out.trans (hB.mono HB1.out.size))
 have hk:=(hB.block _ (HK.blk_lt HK1.out)).trans HK1.out
 clear z0 z1 z2 z3
 have z0:=HK.blk_cell hk 0
 have z1:=HK.blk_cell hk 1
 have z2:=HK.blk_cell hk 2
 have z3:=HK.blk_cell hk 3
 clear hB hk
 by_cases hn:(n:Int) <= 400
 ·have hn2:=hid hn
  go_wp2_with (fail)
  go_at_call 40
  with_reducible refine (H3.out _ HB2.out).mono ?_
  rintro _ w3 ⟨rfl,hB⟩
  have HB3:=hid (HB2.out.trans (hB.mono HB2.out.size))
  clear hB
  go_wp2_with (fail)
  go_ret
  exact ⟨by rw [decide_eq_true hn2.out]; rfl,HB3.out⟩
 ·have hn2:=hid (show ¬ (n:Int) <= 400 from hn)
  go_wp2_with (fail)
  go_ret
  exact ⟨by rw [decide_eq_false (by have:=hn2.out; omega)]; rfl,HB2.out⟩
set_option maxRecDepth 100000 in
set_option maxHeartbeats 2000000 in
theorem rterm_call (w:World) (t:Tm) (s:SL) (hs:IsTs (SN w) w s t.args) (hz:t.name.size <= maxLen) (hN:nodesT t <= 1000000):Calls Tryz.prog 38 #[.agg #[.bool t.var,.string t.name,s.v]] w (RetW w (rT false t)):=by
 have h1:=fun (W:World) (hB:Below w.heap.size w W) => rterm_t t W s false (hs.turn (sn_up hB)) hz hN
 obtain ⟨q,hq⟩:∃ q,q = rT false t:=⟨_,rfl⟩
 rw [<- hq] at h1 ⊢
 unfold RetW at h1
 obtain ⟨v,nm,args⟩:=t
 obtain ⟨sa,sn,sc⟩:=s
 simp only [FR.Tm.var,FR.Tm.name,SL.v] at h1 ⊢
 have H1:=hid h1
 have HB0:=hid (bl_al9 (W:=w) (.cells #[.bool v,.string nm,.slice sa sn sc] 36))
 have hk:=HK.blk_new w (.cells #[.bool v,.string nm,.slice sa sn sc] 36)
 have z0:=HK.blk_cell hk 0
 have z1:=HK.blk_cell hk 1
 have z2:=HK.blk_cell hk 2
 clear h1 hq hs hz hN hk
 go_enter Tryz.func38,Tryz.ntmps38
 go_wp2_with (fail)
 go_at_call 70
 with_reducible refine (H1.out _ HB0.out).mono ?_
 rintro _ w1 ⟨rfl,hB⟩
 have HB1:=hid (HB0.out.trans (hB.mono HB0.out.size))
 clear hB
 go_wp2_with (fail)
 go_ret
 exact ⟨rfl,HB1.out⟩
end Go.Proofs.YtdobflpbkfkmgaaGreatDoor
